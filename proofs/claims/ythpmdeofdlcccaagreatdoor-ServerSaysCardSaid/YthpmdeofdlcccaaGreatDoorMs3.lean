/- server.Ack. Conditions: what is handed over reads; the letters stand. -/
/- server.Next. Conditions: the mailbox reads; the letters stand. -/
import Derived.Test.YthpmdeofdlcccaaGreatDoorMs2
namespace Go.Proofs.YthpmdeofdlcccaaGreatDoor
open Go.ChangeShapes Go.WideShapes Go.ChangeAt Go.RowKit
set_option linter.unusedVariables false
set_option linter.unusedSimpArgs false
set_option maxRecDepth 100000
theorem satom_x (w : World) (s : ByteArray) : Calls Tryz.prog 39 #[.string s] w fun e w' => e = .returned (.agg #[.int .i8 1, .int .i64 0, .string s, .string ⟨#[]⟩, .slice none 0 0]) ∧ Below w.heap.size w w' := satom_any w s
/-- an acknowledgement's parts -/
def ackL (p : Int) (t : Tm) : List Tm := [.mk 1 0 ackS ⟨#[]⟩ [], .mk 4 p ⟨#[]⟩ ⟨#[]⟩ [], t]
/-- an acknowledgement -/
def ackV (p : Int) (t : Tm) : Tm := if mdN (ackL p t) 1 = 0 then .mk 5 0 ⟨#[]⟩ ⟨#[]⟩ (ackL p t) else tupA (ackL p (tupA [.mk 1 0 errS ⟨#[]⟩ [], .mk 1 0 limS ⟨#[]⟩ []]))
/-- what stands while it goes on: the head's row too -/
structure AkW (w0 w : World) (M : Nat → Prop) (x : TE) (g : Nat) (p : Int) : Prop where
  r : RpW w0 w M x
  hh : w.heap[g]? = some (.cells #[.int .i8 1, .int .i64 0, .string ⟨#[97, 99, 107]⟩, .string ⟨#[]⟩, .slice none 0 0, .int .i8 4, .int .i64 p, .string ⟨#[]⟩, .string ⟨#[]⟩, .slice none 0 0] 25 (0, 0))
  hg : w0.heap.size + 2 ≤ g
theorem AkW.keep {w0 w w' : World} {M : Nat → Prop} {x : TE} {g : Nat} {p : Int} (h : AkW w0 w M x g p) (hb : Below w.heap.size w w') : AkW w0 w' M x g p := ⟨h.r.keep hb, keep_heap h.hh hb, h.hg⟩
set_option maxHeartbeats 4000000 in
theorem ack_any (M : Nat → Prop) (w : World) (hM : ∀ k, M k → k < w.heap.size) (hc : Cells w 0 letL) (n : Int) (x : TE) (hx : TeOk M w x) : Calls Tryz.prog 16 #[.int .i64 n, .agg x.cells.toArray] w (TePost M w (ackV (sureN n) x.t)) := by
  have hR := RpW.start w M x
  have HR0 := Lib.hid hR
  have HX := Lib.hid (And.intro hx (And.intro hM hc))
  clear hR hx hM hc
  have HP := Lib.hid (sure_b n)
  have hsure : min (max n 0) 576460752303423487 = sureN n := rfl
  go_enter Tryz.func16, Tryz.ntmps16
  go_wp2_with fail
  generalize (w.alloc (.cells x.cells.toArray 25)).alloc (.cells zT 25) = W0 at *
  refine (satom_x W0 _).mono ?_
  rintro e w1 ⟨rfl, hb1⟩
  have HR1 := Lib.hid (HR0.out.keep hb1)
  clear hb1 HR0
  go_wp2_with (with_reducible refine stop_op (o := ⟨_, .buildSlice 23 2 #[(0, .tmp 8), (1, .tmp 12)], _, _, _, _⟩) ?_)
  clear hsure
  generalize sureN n = p at *
  have hb2 := (Below.refl w1.heap.size w1).alloc (Nat.le_refl _) (.cells #[.int .i8 1, .int .i64 0, .string ⟨#[97, 99, 107]⟩, .string ⟨#[]⟩, .slice none 0 0, .int .i8 4, .int .i64 p, .string ⟨#[]⟩, .string ⟨#[]⟩, .slice none 0 0] 25)
  have HA := Lib.hid (AkW.mk (HR1.out.keep hb2) (heap_new w1 (.cells #[.int .i8 1, .int .i64 0, .string ⟨#[97, 99, 107]⟩, .string ⟨#[]⟩, .slice none 0 0, .int .i8 4, .int .i64 p, .string ⟨#[]⟩, .string ⟨#[]⟩, .slice none 0 0] 25)) HR1.out.hl)
  obtain ⟨x0, x1, x2, x3, x4⟩ := BxS.of (HR1.out.keep hb2).h1
  clear hb2 HR1
  refine Lib.hid ?_
  go_wp2_with (with_reducible refine stop_op (o := ⟨_, .buildSlice 23 1 #[(0, .tmp 16)], _, _, _, _⟩) ?_)
  generalize hg : w1.heap.size = g at *
  generalize w1.alloc (.cells #[.int .i8 1, .int .i64 0, .string ⟨#[97, 99, 107]⟩, .string ⟨#[]⟩, .slice none 0 0, .int .i8 4, .int .i64 p, .string ⟨#[]⟩, .string ⟨#[]⟩, .slice none 0 0] 25) = w2 at *
  have hb3 := (Below.refl w2.heap.size w2).alloc (Nat.le_refl _) (.cells #[.int .i8 x.k, .int .i64 x.n, .string x.s, .string x.u, .slice x.ao x.l.length x.cap] 25)
  have HA3 := Lib.hid (And.intro (HA.out.keep hb3) (heap_new w2 (.cells #[.int .i8 x.k, .int .i64 x.n, .string x.s, .string x.u, .slice x.ao x.l.length x.cap] 25)))
  clear hb3 HA x0 x1 x2 x3 x4
  refine Lib.hid ?_
  go_wp2_with (with_reducible refine stop_op (o := ⟨_, .call { callee := .builtin .append, args := #[.tmp 15, .tmp 17], argTypes := #[23, 23] }, _, _, _, _⟩) ?_)
  generalize w2.alloc (.cells #[.int .i8 x.k, .int .i64 x.n, .string x.s, .string x.u, .slice x.ao x.l.length x.cap] 25) = w3 at *
  generalize w2.heap.size = g2 at *
  obtain ⟨i, z, i1, i2, i3, i4, i5⟩ := infoTM2
  refine Lib.hid ?_
  refine wpList_append_full (o := ⟨_, _, _, _, _, _⟩) rfl (.tmp 15) (.tmp 17) 23 rfl 25 i z 5 72 Tryz.underlying23 i1 i2 i3 i4 i5 ⟨g, 0, none⟩ 2 #[.int .i8 1, .int .i64 0, .string ⟨#[97, 99, 107]⟩, .string ⟨#[]⟩, .slice none 0 0, .int .i8 4, .int .i64 p, .string ⟨#[]⟩, .string ⟨#[]⟩, .slice none 0 0].toList rfl rfl (fun j u hj => by rw [Addr.add_lit, Nat.zero_add]; exact (cells_at HA3.out.1.hh j u (by rw [← Array.getElem?_toList]; exact hj)).1) ⟨g2, 0, none⟩ 1 1 #[.int .i8 x.k, .int .i64 x.n, .string x.s, .string x.u, .slice x.ao x.l.length x.cap].toList rfl rfl (fun j u hj => by rw [Addr.add_lit, Nat.zero_add]; exact (cells_at HA3.out.2 j u (by rw [← Array.getElem?_toList]; exact hj)).1) (by omega) (by omega) (by omega) ?_
  intro v4 w4 hown hb4
  obtain ⟨ao4, c4, rfl⟩ := own_slice hown
  have HA4 := Lib.hid (HA3.out.1.keep hb4)
  have hta : TesOk (fun k => M k ∨ k = w.heap.size + 1) w4 (.slice ao4 3 c4) [atomT ackS, numT 4 p, x] :=
    tes_own _ w4 w3.heap.size _ [atomT ackS, numT 4 p, x] 3 rfl hown (fun k hk => by
      have := HA3.out.1.r.hl
      rcases hk with hk | hk
      · have := HX.out.2.1 k hk
        omega
      · omega) (fun y hy => by
      simp only [List.mem_cons, List.not_mem_nil, or_false] at hy
      rcases hy with rfl | rfl | rfl
      · exact atomT_ok _ _ _ (by decide)
      · exact numT_ok _ _ _ _ (by omega) (by have := HP.out; omega)
      · exact HX.out.1.chg (chg_of_below HA4.out.r.hb (fun _ => False)) (fun _ h => h.elim) (fun k hk hl => hk.elim id (fun e => by omega)))
  have hno : ∀ c, (.slice ao4 3 c4 : Value) ≠ .slice none 0 c ∨ c = 0 := fun c => .inl (by simp)
  have HT := Lib.hid (tup_any _ w4 (fun k hk => by
    have := HA4.out.r.hl
    rcases hk with hk | hk
    · have := HX.out.2.1 k hk
      omega
    · omega) (keepCells HX.out.2.2 HA4.out.r.hb) _ _ hta hno (by simp))
  have hE : ackV p x.t = if mdN (ackL p x.t) 1 = 0 then .mk 5 0 ⟨#[]⟩ ⟨#[]⟩ (ackL p x.t) else tupA (ackL p (tupA [.mk 1 0 errS ⟨#[]⟩ [], .mk 1 0 limS ⟨#[]⟩ []])) := rfl
  have hL : ([atomT ackS, numT 4 p, x] : List TE).map TE.t = ackL p x.t := rfl
  rw [hL] at HT
  have HE := Lib.hid hE
  clear hb4 HA3 hown hta hno hE hL
  go_wp2_with fail
  refine HT.out.mono ?_
  clear HT
  rintro e w5 ⟨hb5, hcase⟩
  have HA5 := Lib.hid (HA4.out.keep hb5)
  clear hb5 HA4
  rcases hcase with ⟨h0, y, rfl, hyt, hy⟩ | ⟨h0, rfl⟩
  · have HF := Lib.hid (show ackV p x.t = y.t by rw [HE.out, if_pos h0, hyt])
    have HY := Lib.hid hy
    clear HE h0 hyt hy
    simp only [TE.cells]
    go_wp2_with (with_reducible refine stop_op (o := ⟨_, .store 25 (.tmp 6) (.tmp 20), _, _, _, _⟩) ?_)
    refine Lib.hid ?_
    refine wpList_store_new (o := ⟨none, _, _, _, _, _⟩) rfl 25 (.tmp 6) (.tmp 20) rfl #[.int .i8 y.k, .int .i64 y.n, .string y.s, .string y.u, .slice y.ao y.l.length y.cap] rfl rfl (infoTM' _ rfl) rfl (by simp [Value.oneCell']) ?_
    have hb6 := (Below.refl w5.heap.size w5).alloc (Nat.le_refl _) (.cells #[.int .i8 y.k, .int .i64 y.n, .string y.s, .string y.u, .slice y.ao y.l.length y.cap] 25)
    have HR3 := Lib.hid (HA5.out.r.keep hb6)
    have HY3 := Lib.hid (HY.out.keep hb6)
    obtain ⟨y0, y1, y2, y3, y4⟩ := BxS.of (x := y) (heap_new w5 (.cells #[.int .i8 y.k, .int .i64 y.n, .string y.s, .string y.u, .slice y.ao y.l.length y.cap] 25))
    clear hb6 HA5 HY
    generalize hqs : w5.heap.size = qs at *
    generalize w5.alloc (.cells #[.int .i8 y.k, .int .i64 y.n, .string y.s, .string y.u, .slice y.ao y.l.length y.cap] 25) = W3 at *
    go_wp2_with (with_reducible refine stop_op (o := ⟨_, .store 25 (.tmp 4) (.tmp 32), _, _, _, _⟩) ?_)
    refine Lib.hid ?_
    refine wpList_store_row (o := ⟨none, _, _, _, _, _⟩) rfl 25 (.tmp 4) (.tmp 32) rfl (w.heap.size + 1) #[.int .i8 y.k, .int .i64 y.n, .string y.s, .string y.u, .slice y.ao y.l.length y.cap] rfl rfl 25 zT (HR3.out.h2) (infoTM' _ rfl) rfl (by simp [Value.oneCell']) ?_
    have hc4 := chg_setRow W3 (w.heap.size + 1) #[.int .i8 y.k, .int .i64 y.n, .string y.s, .string y.u, .slice y.ao y.l.length y.cap]
    have HZ := Lib.hid (And.intro (setRow_heap W3 (w.heap.size + 1) zT #[.int .i8 y.k, .int .i64 y.n, .string y.s, .string y.u, .slice y.ao y.l.length y.cap] 25 (0, 0) HR3.out.h2) (And.intro (bel_setRow HR3.out.hb HR3.out.hb.size (Nat.le_succ _) #[.int .i8 y.k, .int .i64 y.n, .string y.s, .string y.u, .slice y.ao y.l.length y.cap]) (HY3.out.chg (M' := M) hc4 (fun k e _ => .inr e) (fun k hk _ => .inl hk))))
    generalize W3.setRow (w.heap.size + 1) #[.int .i8 y.k, .int .i64 y.n, .string y.s, .string y.u, .slice y.ao y.l.length y.cap] = W4 at *
    clear hc4 HR3 HY3 y0 y1 y2 y3 y4
    go_wp2_with fail
    exact ret_cell HZ.out.1 rfl Tryz.underlying25 rfl (infoTM' _ rfl) rfl ⟨y, rfl, HF.out.symm, HZ.out.2.2, HZ.out.2.1⟩
  · have q1 : (mdN (ackL p x.t) 1 != 0) = true := by simpa using h0
    have HF := Lib.hid (HE.out.trans (if_neg h0))
    generalize mdN (ackL p x.t) 1 = en at *
    clear HE h0
    go_wp2_with (with_reducible refine stop_op (o := ⟨_, .store 25 (.tmp 6) (.tmp 20), _, _, _, _⟩) ?_)
    refine Lib.hid ?_
    refine wpList_store_new (o := ⟨none, _, _, _, _, _⟩) rfl 25 (.tmp 6) (.tmp 20) rfl zT rfl rfl (infoTM' _ rfl) rfl (by simp [Value.oneCell']) ?_
    have hb6 := (Below.refl w5.heap.size w5).alloc (Nat.le_refl _) (.cells zT 25)
    have HA6 := Lib.hid (And.intro (HA5.out.keep hb6) (And.intro (heap_new w5 (.cells zT 25)) HA5.out.r.hl))
    have hs6 : (w5.alloc (.cells zT 25)).heap.size = w5.heap.size + 1 := by simp
    have HS6 := Lib.hid (show w5.heap.size < (w5.alloc (.cells zT 25)).heap.size by omega)
    clear hb6 HA5 hs6
    generalize hqs : w5.heap.size = qs at *
    generalize w5.alloc (.cells zT 25) = w6 at *
    go_wp2_with fail
    refine (satom_x w6 _).mono ?_
    rintro e w7 ⟨rfl, hb7⟩
    have HA7 := Lib.hid (And.intro (HA6.out.1.keep hb7) (And.intro (keep_heap HA6.out.2.1 hb7) HA6.out.2.2))
    have HS7 := Lib.hid (Nat.lt_of_lt_of_le HS6.out hb7.size)
    clear hb7 HA6 HS6
    go_wp2_with fail
    refine (satom_x w7 _).mono ?_
    rintro e w8 ⟨rfl, hb8⟩
    have HA8 := Lib.hid (And.intro (HA7.out.1.keep hb8) (And.intro (keep_heap HA7.out.2.1 hb8) HA7.out.2.2))
    have HS8 := Lib.hid (Nat.lt_of_lt_of_le HS7.out hb8.size)
    clear hb8 HA7 HS7
    go_wp2_with (with_reducible refine stop_op (o := ⟨_, .buildSlice 23 2 #[(0, .tmp 25), (1, .tmp 26)], _, _, _, _⟩) ?_)
    have hb9 := (Below.refl w8.heap.size w8).alloc (Nat.le_refl _) (.cells #[.int .i8 1, .int .i64 0, .string ⟨#[101, 114, 114, 111, 114]⟩, .string ⟨#[]⟩, .slice none 0 0, .int .i8 1, .int .i64 0, .string ⟨#[115, 121, 115, 116, 101, 109, 95, 108, 105, 109, 105, 116]⟩, .string ⟨#[]⟩, .slice none 0 0] 25)
    have hM9 : ∀ k, (M k ∨ k = w.heap.size + 1 ∨ k = qs) → k < w8.heap.size := fun k hk => by
      have := HA8.out.1.r.hl
      have := HS8.out
      rcases hk with hk | hk | hk
      · have := HX.out.2.1 k hk
        omega
      · omega
      · omega
    have hta : TesOk (fun k => M k ∨ k = w.heap.size + 1 ∨ k = qs) (w8.alloc (.cells #[.int .i8 1, .int .i64 0, .string ⟨#[101, 114, 114, 111, 114]⟩, .string ⟨#[]⟩, .slice none 0 0, .int .i8 1, .int .i64 0, .string ⟨#[115, 121, 115, 116, 101, 109, 95, 108, 105, 109, 105, 116]⟩, .string ⟨#[]⟩, .slice none 0 0] 25)) (.slice (some ⟨w8.heap.size, 0, none⟩) 2 2) [atomT errS, atomT limS] :=
      two_tes _ w8 hM9 (atomT errS) (atomT limS) (atomT_ok _ _ _ (by decide)) (atomT_ok _ _ _ (by decide))
    have HA9 := Lib.hid (And.intro (HA8.out.1.keep hb9) (And.intro (keep_heap HA8.out.2.1 hb9) HA8.out.2.2))
    have hno : ∀ c, (.slice (some ⟨w8.heap.size, 0, none⟩) 2 2 : Value) ≠ .slice none 0 c ∨ c = 0 := fun c => .inl (by simp)
    have HT := Lib.hid (stuple_any _ _ (fun k hk => Nat.lt_of_lt_of_le (hM9 k hk) hb9.size) (keepCells HX.out.2.2 HA9.out.1.r.hb) _ _ hta hno (by simp))
    have HM9 := Lib.hid (fun k hk => Nat.lt_of_lt_of_le (hM9 k hk) hb9.size)
    have hL : ([atomT errS, atomT limS] : List TE).map TE.t = [.mk 1 0 errS ⟨#[]⟩ [], .mk 1 0 limS ⟨#[]⟩ []] := rfl
    rw [hL] at HT
    clear hb9 HA8 hno hta hL hM9 HS8
    refine Lib.hid ?_
    go_wp2_with fail
    generalize w8.alloc (.cells #[.int .i8 1, .int .i64 0, .string ⟨#[101, 114, 114, 111, 114]⟩, .string ⟨#[]⟩, .slice none 0 0, .int .i8 1, .int .i64 0, .string ⟨#[115, 121, 115, 116, 101, 109, 95, 108, 105, 109, 105, 116]⟩, .string ⟨#[]⟩, .slice none 0 0] 25) = w9 at *
    generalize w8.heap.size = g8 at *
    refine HT.out.mono ?_
    clear HT
    rintro e w10 ⟨u, rfl, hut, hu, hb10⟩
    have HA10 := Lib.hid (And.intro (HA9.out.1.keep hb10) (And.intro (keep_heap HA9.out.2.1 hb10) HA9.out.2.2))
    have HM10 := Lib.hid (fun k hk => Nat.lt_of_lt_of_le (HM9.out k hk) hb10.size)
    have HU := Lib.hid (And.intro hut hu)
    clear hb10 HA9 HM9 hut hu
    simp only [TE.cells]
    go_wp2_with (with_reducible refine stop_op (o := ⟨_, .buildSlice 23 1 #[(0, .tmp 28)], _, _, _, _⟩) ?_)
    have hb3 := (Below.refl w10.heap.size w10).alloc (Nat.le_refl _) (.cells #[.int .i8 u.k, .int .i64 u.n, .string u.s, .string u.u, .slice u.ao u.l.length u.cap] 25)
    have HA3 := Lib.hid (And.intro (And.intro (HA10.out.1.keep hb3) (And.intro (keep_heap HA10.out.2.1 hb3) HA10.out.2.2)) (heap_new w10 (.cells #[.int .i8 u.k, .int .i64 u.n, .string u.s, .string u.u, .slice u.ao u.l.length u.cap] 25)))
    have HM3 := Lib.hid (fun k hk => Nat.lt_of_lt_of_le (HM10.out k hk) hb3.size)
    have HU3 := Lib.hid (And.intro HU.out.1 (HU.out.2.keep hb3))
    clear hb3 HA10 HM10 HU
    refine Lib.hid ?_
    go_wp2_with (with_reducible refine stop_op (o := ⟨_, .call { callee := .builtin .append, args := #[.tmp 24, .tmp 29], argTypes := #[23, 23] }, _, _, _, _⟩) ?_)
    generalize w10.alloc (.cells #[.int .i8 u.k, .int .i64 u.n, .string u.s, .string u.u, .slice u.ao u.l.length u.cap] 25) = w11 at *
    generalize w10.heap.size = g2 at *
    refine Lib.hid ?_
    refine wpList_append_full (o := ⟨_, _, _, _, _, _⟩) rfl (.tmp 24) (.tmp 29) 23 rfl 25 i z 5 72 Tryz.underlying23 i1 i2 i3 i4 i5 ⟨g, 0, none⟩ 2 #[.int .i8 1, .int .i64 0, .string ⟨#[97, 99, 107]⟩, .string ⟨#[]⟩, .slice none 0 0, .int .i8 4, .int .i64 p, .string ⟨#[]⟩, .string ⟨#[]⟩, .slice none 0 0].toList rfl rfl (fun j u hj => by rw [Addr.add_lit, Nat.zero_add]; exact (cells_at HA3.out.1.1.hh j u (by rw [← Array.getElem?_toList]; exact hj)).1) ⟨g2, 0, none⟩ 1 1 #[.int .i8 u.k, .int .i64 u.n, .string u.s, .string u.u, .slice u.ao u.l.length u.cap].toList rfl rfl (fun j u hj => by rw [Addr.add_lit, Nat.zero_add]; exact (cells_at HA3.out.2 j u (by rw [← Array.getElem?_toList]; exact hj)).1) (by omega) (by omega) (by omega) ?_
    intro v4 w12 hown hb12
    obtain ⟨ao5, c5, rfl⟩ := own_slice hown
    have HA12 := Lib.hid (And.intro (HA3.out.1.1.keep hb12) (And.intro (keep_heap HA3.out.1.2.1 hb12) HA3.out.1.2.2))
    have hta : TesOk (fun k => M k ∨ k = w.heap.size + 1 ∨ k = qs) w12 (.slice ao5 3 c5) [atomT ackS, numT 4 p, u] :=
      tes_own _ w12 w11.heap.size _ [atomT ackS, numT 4 p, u] 3 rfl hown HM3.out (fun y hy => by
        simp only [List.mem_cons, List.not_mem_nil, or_false] at hy
        rcases hy with rfl | rfl | rfl
        · exact atomT_ok _ _ _ (by decide)
        · exact numT_ok _ _ _ _ (by omega) (by have := HP.out; omega)
        · exact HU3.out.2.keep hb12)
    have hno : ∀ c, (.slice ao5 3 c5 : Value) ≠ .slice none 0 c ∨ c = 0 := fun c => .inl (by simp)
    have HT := Lib.hid (stuple_any _ _ (fun k hk => Nat.lt_of_lt_of_le (HM3.out k hk) hb12.size) (keepCells HX.out.2.2 HA12.out.1.r.hb) _ _ hta hno (by simp))
    have hL : ([atomT ackS, numT 4 p, u] : List TE).map TE.t = ackL p u.t := rfl
    rw [hL] at HT
    clear hb12 hno hta hL HA3 HM3 hown
    go_wp2_with fail
    refine HT.out.mono ?_
    clear HT
    rintro e w13 ⟨v, rfl, hvt, hv, hb13⟩
    have HA13 := Lib.hid (And.intro (HA12.out.1.keep hb13) (And.intro (keep_heap HA12.out.2.1 hb13) HA12.out.2.2))
    have HV := Lib.hid (And.intro hvt hv)
    clear hb13 HA12 hvt hv
    simp only [TE.cells]
    go_wp2_with (with_reducible refine stop_op (o := ⟨_, .store 25 (.tmp 6) (.tmp 31), _, _, _, _⟩) ?_)
    refine Lib.hid ?_
    refine wpList_store_row (o := ⟨none, _, _, _, _, _⟩) rfl 25 (.tmp 6) (.tmp 31) rfl qs #[.int .i8 v.k, .int .i64 v.n, .string v.s, .string v.u, .slice v.ao v.l.length v.cap] rfl rfl 25 zT HA13.out.2.1 (infoTM' _ rfl) rfl (by simp [Value.oneCell']) ?_
    have hc4 := chg_setRow w13 qs #[.int .i8 v.k, .int .i64 v.n, .string v.s, .string v.u, .slice v.ao v.l.length v.cap]
    have hle : w.heap.size ≤ qs := by have := HA13.out.2.2; omega
    have hne : w.heap.size + 1 ≠ qs := by have := HA13.out.2.2; omega
    have HZ := Lib.hid (And.intro (setRow_heap w13 qs zT #[.int .i8 v.k, .int .i64 v.n, .string v.s, .string v.u, .slice v.ao v.l.length v.cap] 25 (0, 0) HA13.out.2.1) (And.intro (bel_setRow HA13.out.1.r.hb HA13.out.1.r.hb.size hle #[.int .i8 v.k, .int .i64 v.n, .string v.s, .string v.u, .slice v.ao v.l.length v.cap]) (And.intro (HV.out.2.chg (M' := fun k => M k ∨ k = w.heap.size + 1) hc4 (fun k e _ => .inr (.inr e)) (fun k hk _ => hk.elim .inl fun e => .inr (.inl e))) (hc4.heap HA13.out.1.r.h2 hne))))
    generalize w13.setRow qs #[.int .i8 v.k, .int .i64 v.n, .string v.s, .string v.u, .slice v.ao v.l.length v.cap] = W3 at *
    clear hc4 hle hne HA13
    obtain ⟨y0, y1, y2, y3, y4⟩ := BxS.of (x := v) HZ.out.1
    go_wp2_with (with_reducible refine stop_op (o := ⟨_, .store 25 (.tmp 4) (.tmp 32), _, _, _, _⟩) ?_)
    refine Lib.hid ?_
    refine wpList_store_row (o := ⟨none, _, _, _, _, _⟩) rfl 25 (.tmp 4) (.tmp 32) rfl (w.heap.size + 1) #[.int .i8 v.k, .int .i64 v.n, .string v.s, .string v.u, .slice v.ao v.l.length v.cap] rfl rfl 25 zT (HZ.out.2.2.2) (infoTM' _ rfl) rfl (by simp [Value.oneCell']) ?_
    have hc4 := chg_setRow W3 (w.heap.size + 1) #[.int .i8 v.k, .int .i64 v.n, .string v.s, .string v.u, .slice v.ao v.l.length v.cap]
    have HZ2 := Lib.hid (And.intro (setRow_heap W3 (w.heap.size + 1) zT #[.int .i8 v.k, .int .i64 v.n, .string v.s, .string v.u, .slice v.ao v.l.length v.cap] 25 (0, 0) HZ.out.2.2.2) (And.intro (bel_setRow HZ.out.2.1 HZ.out.2.1.size (Nat.le_succ _) #[.int .i8 v.k, .int .i64 v.n, .string v.s, .string v.u, .slice v.ao v.l.length v.cap]) (HZ.out.2.2.1.chg (M' := M) hc4 (fun k e _ => .inr e) (fun k hk _ => .inl hk))))
    generalize W3.setRow (w.heap.size + 1) #[.int .i8 v.k, .int .i64 v.n, .string v.s, .string v.u, .slice v.ao v.l.length v.cap] = W4 at *
    clear hc4 HZ y0 y1 y2 y3 y4
    go_wp2_with fail
    exact ret_cell HZ2.out.1 rfl Tryz.underlying25 rfl (infoTM' _ rfl) rfl ⟨v, rfl, by rw [HF.out, ← HU3.out.1, ← HV.out.1], HZ2.out.2.2, HZ2.out.2.1⟩
end Go.Proofs.YthpmdeofdlcccaaGreatDoor
namespace Go.Proofs.YthpmdeofdlcccaaGreatDoor
open Go.ChangeShapes Go.WideShapes Go.ChangeAt Go.RowKit
set_option linter.unusedVariables false
set_option linter.unusedSimpArgs false
set_option maxRecDepth 100000
theorem ret_next {P : Program} {fn : Func} {R : Ending → World → Prop} {tmps : Array Value} {w : World} {g g2 p p2 q : Nat} {ty ty2 t t2 : TypeId} {fr fr2 : Nat × Nat} {d d2 : TypeDesc} {cs cs2 : Array Value} {u : Value} (hg : w.heap[g]? = some (.cells cs t fr)) (hg2 : w.heap[g2]? = some (.cells cs2 t2 fr2)) (hfn : fn.results = #[.tmp q, .cell p ty, .cell p2 ty2])
    (hu : P.underlying ty = some d) (hd : (match d with | .struct _ | .array _ _ => true | _ => false) = true) (hi : (P.info? ty).map (·.size) = some cs.size)
    (hu2 : P.underlying ty2 = some d2) (hd2 : (match d2 with | .struct _ | .array _ _ => true | _ => false) = true) (hi2 : (P.info? ty2).map (·.size) = some cs2.size)
    (hp : tmps.getD p undef = .pointer (some ⟨g, 0, none⟩)) (hp2 : tmps.getD p2 undef = .pointer (some ⟨g2, 0, none⟩)) (hq : tmps.getD q undef = u) (hpost : R (.returned (.tuple #[u, .agg cs, .agg cs2])) w) : bodyPost P fn R .ret { tmps := tmps, defers := [] } w := by
  refine bodyPost_ret (v := .tuple #[u, .agg cs, .agg cs2]) ?_ rfl hpost
  have hl := run_loadVar_row (P := P) w g t ty cs fr d hg hu hd hi
  have hl2 := run_loadVar_row (P := P) w g2 t2 ty2 cs2 fr2 d2 hg2 hu2 hd2 hi2
  unfold results
  rw [hfn]
  simp only [Array.getD_eq_getD_getElem?] at hp hp2 hq
  simp [asAddr, hp, hp2, hq, hl, hl2]
def exiS : ByteArray := ⟨#[101, 120, 105, 116, 101, 100]⟩
def gcaS : ByteArray := ⟨#[103, 101, 110, 95, 99, 97, 115, 116]⟩
/-- the parent's end -/
def parB (i : It) (pid : Int) : Bool := fsB i true exiS (numT 4 pid) && decide (i.x.l.length = 3)
/-- what the oldest message is -/
def NextR (L : List It) (pid k : Int) (f m : TE) : Prop := match L with
  | [] => k = 0 ∧ f = numT 0 0 ∧ m = numT 0 0
  | i :: _ => (parB i pid = true ∧ k = 1 ∧ f = numT 0 0 ∧ i.x.l[2]? = some m.t) ∨
    (parB i pid = false ∧ ∃ p r q, callP i.x.t = some (p, r, q) ∧ k = 2 ∧ f.t = tupA [.mk 4 p ⟨#[]⟩ ⟨#[]⟩ [], .mk 2 r ⟨#[]⟩ ⟨#[]⟩ []] ∧ m.t = q) ∨
    (parB i pid = false ∧ callP i.x.t = none ∧ isB i.x.t gcaS 2 = true ∧ k = 3 ∧ f = numT 0 0 ∧ i.x.l[1]? = some m.t) ∨
    (parB i pid = false ∧ callP i.x.t = none ∧ isB i.x.t gcaS 2 = false ∧ k = 4 ∧ f = numT 0 0 ∧ m = i.x)
def NxPost (M : Nat → Prop) (w : World) (L : List It) (pid : Int) (e : Ending) (w' : World) : Prop := ∃ (k : Int) (f m : TE), e = .returned (.tuple #[.int .i8 k, .agg f.cells.toArray, .agg m.cells.toArray]) ∧ NextR L pid k f m ∧ TeOk M w' f ∧ TeOk M w' m ∧ Below w.heap.size w w'
/-- a mailbox: its slice, its first item -/
def MlOk (M : Nat → Prop) (w : World) (v : Value) (L : List It) : Prop := ∃ ao cap, v = .slice ao L.length cap ∧ L.length ≤ cap ∧ cap ≤ 9223372036854775807 ∧ ∀ i, L.head? = some i → TeOk M w i.x ∧ ∃ b off, ao = some ⟨b, off, none⟩ ∧ ItAt w b off i
structure NzW (w0 w : World) : Prop where
  hb : Below w0.heap.size w0 w
  h5 : w.heap[w0.heap.size]? = some (.cells zT 25 (0, 0))
  h6 : w.heap[w0.heap.size + 1]? = some (.cells zT 25 (0, 0))
theorem NzW.keep {w0 w w' : World} (h : NzW w0 w) (hb : Below w.heap.size w w') : NzW w0 w' := ⟨h.hb.trans (hb.mono h.hb.size), keep_heap h.h5 hb, keep_heap h.h6 hb⟩
structure NxW (w0 w : World) (x : TE) : Prop where
  z : NzW w0 w
  h7 : w.heap[w0.heap.size + 2]? = some (.cells x.cells.toArray 25 (0, 0))
  hl : w0.heap.size + 3 ≤ w.heap.size
theorem NxW.keep {w0 w w' : World} {x : TE} (h : NxW w0 w x) (hb : Below w.heap.size w w') : NxW w0 w' x := ⟨h.z.keep hb, keep_heap h.h7 hb, Nat.le_trans h.hl hb.size⟩
def NsZ (q : Nat) (W : World) : Prop := W.cell? ⟨q, 0, none⟩ = some (.int .i8 0) ∧ W.cell? ⟨q, 1, none⟩ = some (.int .i64 0) ∧ W.cell? ⟨q, 2, none⟩ = some (.string ⟨#[]⟩) ∧ W.cell? ⟨q, 3, none⟩ = some (.string ⟨#[]⟩) ∧ W.cell? ⟨q, 4, none⟩ = some (.slice none 0 0) ∧
  W.cell? ⟨q + 1, 0, none⟩ = some (.int .i8 0) ∧ W.cell? ⟨q + 1, 1, none⟩ = some (.int .i64 0) ∧ W.cell? ⟨q + 1, 2, none⟩ = some (.string ⟨#[]⟩) ∧ W.cell? ⟨q + 1, 3, none⟩ = some (.string ⟨#[]⟩) ∧ W.cell? ⟨q + 1, 4, none⟩ = some (.slice none 0 0)
theorem NsZ.mk' {q : Nat} {W : World} (h1 : ZxS q W) (h2 : ZxS (q + 1) W) : NsZ q W := ⟨h1.1, h1.2.1, h1.2.2.1, h1.2.2.2.1, h1.2.2.2.2, h2.1, h2.2.1, h2.2.2.1, h2.2.2.2.1, h2.2.2.2.2⟩
def NsP (q b o : Nat) (lv : Value) (k n : Int) (s u : ByteArray) (l : Value) (W : World) : Prop := W.cell? ⟨q, 0, none⟩ = some (.int .i8 0) ∧ W.cell? ⟨q, 1, none⟩ = some (.int .i64 0) ∧ W.cell? ⟨q, 2, none⟩ = some (.string ⟨#[]⟩) ∧ W.cell? ⟨q, 3, none⟩ = some (.string ⟨#[]⟩) ∧ W.cell? ⟨q, 4, none⟩ = some (.slice none 0 0) ∧ W.cell? ⟨q + 2, 4, none⟩ = some lv ∧
  W.cell? ⟨b, o, none⟩ = some (.int .i8 k) ∧ W.cell? ⟨b, o + 1, none⟩ = some (.int .i64 n) ∧ W.cell? ⟨b, o + 2, none⟩ = some (.string s) ∧ W.cell? ⟨b, o + 3, none⟩ = some (.string u) ∧ W.cell? ⟨b, o + 4, none⟩ = some l
theorem NsP.chg {q b o : Nat} {lv : Value} {k n : Int} {s u : ByteArray} {l : Value} {W W' : World} (h : NsP q b o lv k n s u l W) {T : Nat → Prop} (hc : Chg T W W') (hz : ZxS q W') (h2 : ¬ T (q + 2)) (hb : ¬ T b) : NsP q b o lv k n s u l W' := by
  obtain ⟨-, -, -, -, -, g, h1, h3, h4, h5, h6⟩ := h
  exact ⟨hz.1, hz.2.1, hz.2.2.1, hz.2.2.2.1, hz.2.2.2.2, hc.cell g h2, hc.cell h1 hb, hc.cell h3 hb, hc.cell h4 hb, hc.cell h5 hb, hc.cell h6 hb⟩
def NsX (q : Nat) (x : TE) (W : World) : Prop := W.cell? ⟨q, 0, none⟩ = some (.int .i8 0) ∧ W.cell? ⟨q, 1, none⟩ = some (.int .i64 0) ∧ W.cell? ⟨q, 2, none⟩ = some (.string ⟨#[]⟩) ∧ W.cell? ⟨q, 3, none⟩ = some (.string ⟨#[]⟩) ∧ W.cell? ⟨q, 4, none⟩ = some (.slice none 0 0) ∧
  W.cell? ⟨q + 2, 0, none⟩ = some (.int .i8 x.k) ∧ W.cell? ⟨q + 2, 1, none⟩ = some (.int .i64 x.n) ∧ W.cell? ⟨q + 2, 2, none⟩ = some (.string x.s) ∧ W.cell? ⟨q + 2, 3, none⟩ = some (.string x.u) ∧ W.cell? ⟨q + 2, 4, none⟩ = some (.slice x.ao x.l.length x.cap)
theorem NsX.chg {q : Nat} {x : TE} {W W' : World} (h : NsX q x W) {T : Nat → Prop} (hc : Chg T W W') (hz : ZxS q W') (h2 : ¬ T (q + 2)) : NsX q x W' := by
  obtain ⟨-, -, -, -, -, h1, h3, h4, h5, h6⟩ := h
  exact ⟨hz.1, hz.2.1, hz.2.2.1, hz.2.2.2.1, hz.2.2.2.2, hc.cell h1 h2, hc.cell h3 h2, hc.cell h4 h2, hc.cell h5 h2, hc.cell h6 h2⟩
theorem call_fields {M : Nat → Prop} {w : World} {x : TE} {p r : Int} {q : Tm} (h : TeOk M w x) (hc : callP x.t = some (p, r, q)) : (-9223372036854775808 ≤ p ∧ p ≤ 9223372036854775807) ∧ (-9223372036854775808 ≤ r ∧ r ≤ 9223372036854775807) := by
  unfold callP at hc
  split at hc
  · split at hc
    · next a f q' hl =>
      have hl' : x.l = [a, f, q'] := hl
      split at hc
      · split at hc
        · next p' r' hf =>
          split at hc
          · injection hc with hc
            injection hc with e1 e2
            injection e2 with e2 e3
            obtain ⟨-, -, y, -, ey, hy, -⟩ := h.part (i := 1) (by rw [hl']; simp)
            rw [hl'] at ey
            have ey : f = y.t := by simpa using ey
            have hyl : y.l = [p', r'] := by rw [← hf, ey]; rfl
            obtain ⟨-, -, z1, -, ez1, hz1, -⟩ := hy.part (i := 0) (by rw [hyl]; simp)
            obtain ⟨-, -, z2, -, ez2, hz2, -⟩ := hy.part (i := 1) (by rw [hyl]; simp)
            rw [hyl] at ez1 ez2
            have ez1 : p' = z1.t := by simpa using ez1
            have ez2 : r' = z2.t := by simpa using ez2
            have f1 : z1.n = p := by rw [← e1, ez1]; rfl
            have f2 : z2.n = r := by rw [← e2, ez2]; rfl
            exact ⟨f1 ▸ hz1.1.2.1, f2 ▸ hz2.1.2.1⟩
          · cases hc
        · cases hc
      · cases hc
    · cases hc
  · cases hc
set_option maxHeartbeats 8000000 in
theorem next_any (M : Nat → Prop) (w : World) (hM : ∀ k, M k → k < w.heap.size) (hc : Cells w 0 letL) (v : Value) (L : List It) (pid : Int) (hv : MlOk M w v L) (hp : -9223372036854775808 ≤ pid ∧ pid ≤ 9223372036854775807) : Calls Tryz.prog 12 #[v, .int .i64 pid] w (NxPost M w L pid) := by
  obtain ⟨ao, cap, rfl, h1, h2, h3⟩ := hv
  have hb1 := (Below.refl w.heap.size w).alloc (Nat.le_refl _) (.cells zT 25)
  have hb2 := hb1.alloc (by simp) (.cells zT 25)
  have n5 := heap_old (heap_new w (.cells zT 25)) (.cells zT 25)
  have n6 := heap_new (w.alloc (.cells zT 25)) (.cells zT 25)
  rw [World.size_alloc] at n6
  have hsz : ((w.alloc (.cells zT 25)).alloc (.cells zT 25)).heap.size = w.heap.size + 2 := by simp
  have HB := Lib.hid (And.intro (NzW.mk hb2 n5 n6) hsz)
  have HX := Lib.hid (And.intro hM hc)
  clear hb1 hb2 n5 n6 hsz hM hc
  cases L with
  | nil =>
    clear h3
    go_enter Tryz.func12, Tryz.ntmps12
    go_wp2_with fail
    generalize (w.alloc (.cells zT 25)).alloc (.cells zT 25) = w2 at *
    have hdr : Below w2.heap.size w2 w2.drew := (Below.refl _ _).drew
    have hR := HB.out.1.keep hdr
    have hS : NsZ w.heap.size w2.drew := NsZ.mk' (ZxS.of hR.h5) (ZxS.of hR.h6)
    refine region_plan (NsZ w.heap.size) [(0, 0), (1, 0), (2, 0), (3, 1), (4, 1)] (by kernel_rfl) (by kernel_rfl) (by kernel_rfl) hS ?_
    generalize w2.drew = WD at *
    clear hdr HB
    iterate 3 (first | (refine plan_skip rfl ?_ ?_; (focus (rfl)); (try simp only [Act.put, List.setIfInBounds_toArray, List.set_cons_zero, List.set_cons_succ])) | (refine plan_take (v := ?_) rfl ?_ (fun w hSw => ?_) ?_; rotate_left; (focus (rfl)); (focus (unfold NsZ at hSw; (go_simp <;> with_reducible rfl))); (try simp only [Act.put, List.setIfInBounds_toArray, List.set_cons_zero, List.set_cons_succ])))
    have hc4 := chg_setRow WD w.heap.size #[.int .i8 0, .int .i64 0, .string ⟨#[]⟩, .string ⟨#[]⟩, .slice none 0 0]
    have hA := setRow_heap WD w.heap.size zT #[.int .i8 0, .int .i64 0, .string ⟨#[]⟩, .string ⟨#[]⟩, .slice none 0 0] 25 (0, 0) hR.h5
    have hb4 := bel_setRow hR.hb hR.hb.size (Nat.le_refl _) #[.int .i8 0, .int .i64 0, .string ⟨#[]⟩, .string ⟨#[]⟩, .slice none 0 0]
    have h6a := hc4.heap hR.h6 (show w.heap.size + 1 ≠ w.heap.size by omega)
    have hs4 := hR.hb.size
    have hc5 := chg_setRow (WD.setRow w.heap.size #[.int .i8 0, .int .i64 0, .string ⟨#[]⟩, .string ⟨#[]⟩, .slice none 0 0]) (w.heap.size + 1) #[.int .i8 0, .int .i64 0, .string ⟨#[]⟩, .string ⟨#[]⟩, .slice none 0 0]
    have hB := setRow_heap (WD.setRow w.heap.size #[.int .i8 0, .int .i64 0, .string ⟨#[]⟩, .string ⟨#[]⟩, .slice none 0 0]) (w.heap.size + 1) zT #[.int .i8 0, .int .i64 0, .string ⟨#[]⟩, .string ⟨#[]⟩, .slice none 0 0] 25 (0, 0) h6a
    have hA5 := hc5.heap hA (show w.heap.size ≠ w.heap.size + 1 by omega)
    have hb5 := bel_setRow hb4 hb4.size (Nat.le_succ _) #[.int .i8 0, .int .i64 0, .string ⟨#[]⟩, .string ⟨#[]⟩, .slice none 0 0]
    have hS4 := NsZ.mk' (ZxS.of hA) (ZxS.of h6a)
    have hS5 := NsZ.mk' (ZxS.of hA5) (ZxS.of hB)
    refine plan_run rfl ?_ (fun K hK => ?_)
    focus (rfl)
    refine wp_store_row 25 (.tmp 5) (.tmp 17) rfl w.heap.size #[.int .i8 0, .int .i64 0, .string ⟨#[]⟩, .string ⟨#[]⟩, .slice none 0 0] rfl rfl 25 zT hR.h5 (infoTM' _ rfl) rfl (by simp [Value.oneCell']) ?_
    refine hK.out _ _ (hS4) ?_
    clear hK K
    (try simp only [Act.put, List.setIfInBounds_toArray, List.set_cons_zero, List.set_cons_succ])
    refine plan_run rfl ?_ (fun K hK => ?_)
    focus (rfl)
    refine wp_store_row 25 (.tmp 6) (.tmp 18) rfl (w.heap.size + 1) #[.int .i8 0, .int .i64 0, .string ⟨#[]⟩, .string ⟨#[]⟩, .slice none 0 0] rfl rfl 25 zT h6a (infoTM' _ rfl) rfl (by simp [Value.oneCell']) ?_
    refine hK.out _ _ (hS5) ?_
    clear hK K
    (try simp only [Act.put, List.setIfInBounds_toArray, List.set_cons_zero, List.set_cons_succ])
    refine plan_done ?_
    have HZ := Lib.hid (And.intro hA5 (And.intro hB hb5))
    generalize (WD.setRow w.heap.size #[.int .i8 0, .int .i64 0, .string ⟨#[]⟩, .string ⟨#[]⟩, .slice none 0 0]).setRow (w.heap.size + 1) #[.int .i8 0, .int .i64 0, .string ⟨#[]⟩, .string ⟨#[]⟩, .slice none 0 0] = W3 at *
    clear hS4 hS5 hc4 hc5 hR hS hA hb4 h6a hs4 hB hA5 hb5
    go_wp2_with fail
    exact ret_next HZ.out.1 HZ.out.2.1 rfl Tryz.underlying25 rfl (infoTM' _ rfl) Tryz.underlying25 rfl (infoTM' _ rfl) rfl rfl rfl ⟨0, numT 0 0, numT 0 0, rfl, ⟨rfl, rfl, rfl⟩, numT_ok _ _ _ _ (by omega) (by omega), numT_ok _ _ _ _ (by omega) (by omega), HZ.out.2.2⟩
  | cons i L =>
    obtain ⟨hx, b, off, rfl, hit⟩ := h3 i rfl
    have hlen : 1 ≤ L.length + 1 := by omega
    have hcap1 : 1 ≤ cap := Nat.le_trans (by simp) h1
    have hcap2 : (1 : Int) ≤ (cap : Int) := by omega
    have HI := Lib.hid (And.intro hx (hit.keep HB.out.1.hb))
    obtain ⟨c0, c1, c2, c3, c4, c5⟩ := hit.keep HB.out.1.hb
    have q0 : (((i :: L).length : Int) == 0) = false := by simp; omega
    have hlt : (0 : Int) < ((i :: L).length : Int) := by simp
    clear h3 hx hit
    generalize hn : (i :: L).length = n at *
    have hn1 : 0 < n := by rw [← hn]; simp
    clear hn
    go_enter Tryz.func12, Tryz.ntmps12
    go_wp2_with (with_reducible refine stop_op (o := ⟨_, .store 25 (.tmp 7) (.tmp 22), _, _, _, _⟩) ?_)
    generalize (w.alloc (.cells zT 25)).alloc (.cells zT 25) = w2 at *
    refine Lib.hid ?_
    refine wpList_store_new (o := ⟨none, _, _, _, _, _⟩) rfl 25 (.tmp 7) (.tmp 22) rfl #[.int .i8 i.x.k, .int .i64 i.x.n, .string i.x.s, .string i.x.u, .slice i.x.ao i.x.l.length i.x.cap] (by rw [HB.out.2]; rfl) rfl (infoTM' _ rfl) rfl (by simp [Value.oneCell']) ?_
    have hb3 := (Below.refl w2.heap.size w2).alloc (Nat.le_refl _) (.cells #[.int .i8 i.x.k, .int .i64 i.x.n, .string i.x.s, .string i.x.u, .slice i.x.ao i.x.l.length i.x.cap] 25)
    have h7 := heap_new w2 (.cells #[.int .i8 i.x.k, .int .i64 i.x.n, .string i.x.s, .string i.x.u, .slice i.x.ao i.x.l.length i.x.cap] 25)
    rw [HB.out.2] at h7
    have HN := Lib.hid (NxW.mk (x := i.x) (HB.out.1.keep hb3) h7 (by simp [HB.out.2]))
    have HI3 := Lib.hid (And.intro HI.out.1 (HI.out.2.keep hb3))
    clear h7 hb3 HB HI c0 c1 c2 c3 c4 c5
    generalize w2.alloc (.cells #[.int .i8 i.x.k, .int .i64 i.x.n, .string i.x.s, .string i.x.u, .slice i.x.ao i.x.l.length i.x.cap] 25) = w3 at *
    go_wp2_with fail
    refine (first_one M M w3 b off cap i true exiS (numT 4 pid) HI3.out.2 (HI3.out.1.keep HN.out.z.hb) (numT_ok _ _ _ _ (by omega) hp)).mono ?_
    rintro e w4 ⟨rfl, hb4⟩
    have HN4 := Lib.hid (HN.out.keep hb4)
    obtain ⟨x0, x1, x2, x3, x4⟩ := BxS.of HN4.out.h7
    have HXI := Lib.hid HI3.out.1
    clear hb4 HN HI3
    have hPB : parB i pid = (fsB i true exiS (numT 4 pid) && decide (i.x.l.length = 3)) := rfl
    by_cases hpb : parB i pid = true
    · have hf : fsB i true exiS (numT 4 pid) = true := by
        rw [hPB] at hpb
        exact (Bool.and_eq_true_iff.1 hpb).1
      have hl : i.x.l.length = 3 := by
        rw [hPB] at hpb
        exact of_decide_eq_true (Bool.and_eq_true_iff.1 hpb).2
      rw [hf]
      have HPB := Lib.hid hpb
      clear hpb hPB hf
      obtain ⟨b2, o2, y, e2, ey, hy, py, -⟩ := HXI.out.part (i := 2) (by omega)
      have HY := Lib.hid (And.intro hy (And.intro ey py))
      rw [hl, e2] at x4
      clear hy ey py
      go_wp2_with fail
      have hdr : Below w4.heap.size w4 w4.drew := (Below.refl _ _).drew
      have hN := HN4.out.keep hdr
      have hR := hN.z
      have hpy := HY.out.2.2.keep hR.hb
      have hz := ZxS.of hR.h5
      have HL := Lib.hid hN.hl
      have hS : NsP w.heap.size b2 (o2 + 2 * 5) (.slice (some ⟨b2, o2, none⟩) 3 i.x.cap) y.k y.n y.s y.u (.slice y.ao y.l.length y.cap) w4.drew :=
        ⟨hz.1, hz.2.1, hz.2.2.1, hz.2.2.2.1, hz.2.2.2.2, keep_cell x4 hdr, hpy.c0, hpy.c1, hpy.c2, hpy.c3, hpy.c4⟩
      have hlb := World.block_lt_of_cell? w _ HY.out.2.2.c0
      have HLB := Lib.hid (show b2 < w.heap.size from hlb)
      rw [show o2 + 2 * 5 = o2 + 10 by omega] at hS
      refine region_plan (NsP w.heap.size b2 (o2 + 10) (.slice (some ⟨b2, o2, none⟩) 3 i.x.cap) y.k y.n y.s y.u (.slice y.ao y.l.length y.cap)) [(0, 0), (1, 0), (2, 0), (3, 0), (4, 0), (5, 0), (6, 1), (7, 1)] (by kernel_rfl) (by kernel_rfl) (by kernel_rfl) hS ?_
      generalize w4.drew = WD at *
      clear hdr HN4 hN hpy hz x0 x1 x2 x3 x4 hlb
      iterate 6 (first | (refine plan_skip rfl ?_ ?_; (focus (rfl)); (try simp only [Act.put, List.setIfInBounds_toArray, List.set_cons_zero, List.set_cons_succ])) | (refine plan_take (v := ?_) rfl ?_ (fun w hSw => ?_) ?_; rotate_left; (focus (rfl)); (focus (unfold NsP at hSw; (go_simp <;> with_reducible rfl))); (try simp only [Act.put, List.setIfInBounds_toArray, List.set_cons_zero, List.set_cons_succ])))
      have hc4 := chg_setRow WD w.heap.size #[.int .i8 0, .int .i64 0, .string ⟨#[]⟩, .string ⟨#[]⟩, .slice none 0 0]
      have hA := setRow_heap WD w.heap.size zT #[.int .i8 0, .int .i64 0, .string ⟨#[]⟩, .string ⟨#[]⟩, .slice none 0 0] 25 (0, 0) hR.h5
      have hb4 := bel_setRow hR.hb hR.hb.size (Nat.le_refl _) #[.int .i8 0, .int .i64 0, .string ⟨#[]⟩, .string ⟨#[]⟩, .slice none 0 0]
      have h6a := hc4.heap hR.h6 (show w.heap.size + 1 ≠ w.heap.size by omega)
      have hs4 := hR.hb.size
      have hc5 := chg_setRow (WD.setRow w.heap.size #[.int .i8 0, .int .i64 0, .string ⟨#[]⟩, .string ⟨#[]⟩, .slice none 0 0]) (w.heap.size + 1) #[.int .i8 y.k, .int .i64 y.n, .string y.s, .string y.u, .slice y.ao y.l.length y.cap]
      have hB := setRow_heap (WD.setRow w.heap.size #[.int .i8 0, .int .i64 0, .string ⟨#[]⟩, .string ⟨#[]⟩, .slice none 0 0]) (w.heap.size + 1) zT #[.int .i8 y.k, .int .i64 y.n, .string y.s, .string y.u, .slice y.ao y.l.length y.cap] 25 (0, 0) h6a
      have hA5 := hc5.heap hA (show w.heap.size ≠ w.heap.size + 1 by omega)
      have hb5 := bel_setRow hb4 hb4.size (Nat.le_succ _) #[.int .i8 y.k, .int .i64 y.n, .string y.s, .string y.u, .slice y.ao y.l.length y.cap]
      have hS4 := hS.chg hc4 (ZxS.of hA) (by omega) (by have := HLB.out; omega)
      have hS5 := hS4.chg hc5 (ZxS.of hA5) (by omega) (by have := HLB.out; omega)
      refine plan_run rfl ?_ (fun K hK => ?_)
      focus (rfl)
      refine wp_store_row 25 (.tmp 5) (.tmp 38) rfl w.heap.size #[.int .i8 0, .int .i64 0, .string ⟨#[]⟩, .string ⟨#[]⟩, .slice none 0 0] rfl rfl 25 zT hR.h5 (infoTM' _ rfl) rfl (by simp [Value.oneCell']) ?_
      refine hK.out _ _ (hS4) ?_
      clear hK K
      (try simp only [Act.put, List.setIfInBounds_toArray, List.set_cons_zero, List.set_cons_succ])
      refine plan_run rfl ?_ (fun K hK => ?_)
      focus (rfl)
      refine wp_store_row 25 (.tmp 6) (.tmp 42) rfl (w.heap.size + 1) #[.int .i8 y.k, .int .i64 y.n, .string y.s, .string y.u, .slice y.ao y.l.length y.cap] rfl rfl 25 zT h6a (infoTM' _ rfl) rfl (by simp [Value.oneCell']) ?_
      refine hK.out _ _ (hS5) ?_
      clear hK K
      (try simp only [Act.put, List.setIfInBounds_toArray, List.set_cons_zero, List.set_cons_succ])
      refine plan_done ?_
      have HZ := Lib.hid (And.intro hA5 (And.intro hB hb5))
      generalize (WD.setRow w.heap.size #[.int .i8 0, .int .i64 0, .string ⟨#[]⟩, .string ⟨#[]⟩, .slice none 0 0]).setRow (w.heap.size + 1) #[.int .i8 y.k, .int .i64 y.n, .string y.s, .string y.u, .slice y.ao y.l.length y.cap] = W3 at *
      clear hS4 hS5 hc4 hc5 hR hS hA hb4 h6a hs4 hB hA5 hb5
      go_wp2_with fail
      exact ret_next HZ.out.1 HZ.out.2.1 rfl Tryz.underlying25 rfl (infoTM' _ rfl) Tryz.underlying25 rfl (infoTM' _ rfl) rfl rfl rfl ⟨1, numT 0 0, y, rfl, .inl ⟨HPB.out, rfl, rfl, HY.out.2.1⟩, numT_ok _ _ _ _ (by omega) (by omega), HY.out.1.keep HZ.out.2.2, HZ.out.2.2⟩
    · have HPB := Lib.hid (show parB i pid = false by simpa using hpb)
      have hq : (fsB i true exiS (numT 4 pid) = true ∧ ((i.x.l.length : Int) == 3) = false) ∨ fsB i true exiS (numT 4 pid) = false := by
        rw [hPB] at hpb
        cases hf : fsB i true exiS (numT 4 pid)
        · exact .inr rfl
        · refine .inl ⟨rfl, ?_⟩
          rw [hf] at hpb
          simp at hpb
          simp
          omega
      clear hpb hPB
      have hMs : ∀ k, (M k ∨ k = w.heap.size ∨ k = w.heap.size + 1) → k < w4.heap.size := fun k hk => by
        have := HN4.out.hl
        rcases hk with hk | hk | hk
        · have := HX.out.1 k hk
          omega
        · omega
        · omega
      have HM4 := Lib.hid hMs
      have HC := Lib.hid (iscall_any (fun k => M k ∨ k = w.heap.size ∨ k = w.heap.size + 1) w4 hMs (keepCells HX.out.2 HN4.out.z.hb) i.x (HXI.out.chg (chg_of_below HN4.out.z.hb (fun _ => False)) (fun _ h => h.elim) (fun k hk hl => hk.elim id (fun e => by omega))))
      have hxc : (.agg i.x.cells.toArray : Value) = .agg #[.int .i8 i.x.k, .int .i64 i.x.n, .string i.x.s, .string i.x.u, .slice i.x.ao i.x.l.length i.x.cap] := rfl
      rw [hxc] at HC
      clear hxc hMs
      rcases hq with ⟨hf, hq⟩ | hf
      · rw [hf]
        clear hf
        go_wp2_with fail
        refine HC.out.mono ?_
        clear HC x0 x1 x2 x3 x4
        rintro e w5 ⟨y, p, r, bb, rfl, hy, hb5, hcp, hz⟩
        have HN5 := Lib.hid (HN4.out.keep hb5)
        have HM5 := Lib.hid (fun k hk => Nat.lt_of_lt_of_le (HM4.out k hk) hb5.size)
        have HY := Lib.hid (And.intro hy (And.intro hcp hz))
        clear hb5 HN4 HM4 hy hcp hz
        simp only [TE.cells]
        go_wp2_with (with_reducible refine stop_op (o := ⟨_, .store 25 (.tmp 12) (.tmp 48), _, _, _, _⟩) ?_)
        refine Lib.hid ?_
        refine wpList_store_new (o := ⟨none, _, _, _, _, _⟩) rfl 25 (.tmp 12) (.tmp 48) rfl #[.int .i8 y.k, .int .i64 y.n, .string y.s, .string y.u, .slice y.ao y.l.length y.cap] rfl rfl (infoTM' _ rfl) rfl (by simp [Value.oneCell']) ?_
        have hb6 := (Below.refl w5.heap.size w5).alloc (Nat.le_refl _) (.cells #[.int .i8 y.k, .int .i64 y.n, .string y.s, .string y.u, .slice y.ao y.l.length y.cap] 25)
        have HN6 := Lib.hid (HN5.out.keep hb6)
        have HM6 := Lib.hid (fun k hk => Nat.lt_of_lt_of_le (HM5.out k hk) hb6.size)
        have HY6 := Lib.hid (And.intro (HY.out.1.keep hb6) HY.out.2)
        have HB6 := Lib.hid (And.intro (BxS.of (x := y) (heap_new w5 (.cells #[.int .i8 y.k, .int .i64 y.n, .string y.s, .string y.u, .slice y.ao y.l.length y.cap] 25))) HN5.out.hl)
        clear hb6 HN5 HM5 HY
        generalize w5.alloc (.cells #[.int .i8 y.k, .int .i64 y.n, .string y.s, .string y.u, .slice y.ao y.l.length y.cap] 25) = w6 at *
        generalize w5.heap.size = q12 at *
        cases bb
        · have HNC := Lib.hid (show callP i.x.t = none from HY6.out.2.1)
          clear HB6 HM6 HY6
          obtain ⟨x0, x1, x2, x3, x4⟩ := BxS.of HN6.out.h7
          have HIS := Lib.hid (sis_any M w6 i.x gcaS 2 (HXI.out.keep HN6.out.z.hb) (by omega) (by omega))
          have hxc : (.agg i.x.cells.toArray : Value) = .agg #[.int .i8 i.x.k, .int .i64 i.x.n, .string i.x.s, .string i.x.u, .slice i.x.ao i.x.l.length i.x.cap] := rfl
          rw [hxc] at HIS
          clear hxc
          go_wp2_with fail
          refine HIS.out.mono ?_
          clear HIS
          rintro e w7 ⟨rfl, hb7⟩
          have HN7 := Lib.hid (HN6.out.keep hb7)
          clear hb7 HN6 x0 x1 x2 x3 x4
          obtain ⟨x0, x1, x2, x3, x4⟩ := BxS.of HN7.out.h7
          cases hib : isB i.x.t gcaS 2
          · have HIB := Lib.hid hib
            clear hib
            go_wp2_with fail
            have hdr : Below w7.heap.size w7 w7.drew := (Below.refl _ _).drew
            have hN := HN7.out.keep hdr
            have hR := hN.z
            have hz := ZxS.of hR.h5
            have hx := BxS.of hN.h7
            have HL := Lib.hid hN.hl
            have hS : NsX w.heap.size i.x w7.drew := ⟨hz.1, hz.2.1, hz.2.2.1, hz.2.2.2.1, hz.2.2.2.2, hx.1, hx.2.1, hx.2.2.1, hx.2.2.2.1, hx.2.2.2.2⟩
            refine region_plan (NsX w.heap.size i.x) [(0, 0), (1, 0), (2, 0), (3, 1), (4, 1)] (by kernel_rfl) (by kernel_rfl) (by kernel_rfl) hS ?_
            generalize w7.drew = WD at *
            clear hdr HN7 hN hz x0 x1 x2 x3 x4 hx
            iterate 3 (first | (refine plan_skip rfl ?_ ?_; (focus (rfl)); (try simp only [Act.put, List.setIfInBounds_toArray, List.set_cons_zero, List.set_cons_succ])) | (refine plan_take (v := ?_) rfl ?_ (fun w hSw => ?_) ?_; rotate_left; (focus (rfl)); (focus (unfold NsX at hSw; (go_simp <;> with_reducible rfl))); (try simp only [Act.put, List.setIfInBounds_toArray, List.set_cons_zero, List.set_cons_succ])))
            have hc4 := chg_setRow WD w.heap.size #[.int .i8 0, .int .i64 0, .string ⟨#[]⟩, .string ⟨#[]⟩, .slice none 0 0]
            have hA := setRow_heap WD w.heap.size zT #[.int .i8 0, .int .i64 0, .string ⟨#[]⟩, .string ⟨#[]⟩, .slice none 0 0] 25 (0, 0) hR.h5
            have hb4 := bel_setRow hR.hb hR.hb.size (Nat.le_refl _) #[.int .i8 0, .int .i64 0, .string ⟨#[]⟩, .string ⟨#[]⟩, .slice none 0 0]
            have h6a := hc4.heap hR.h6 (show w.heap.size + 1 ≠ w.heap.size by omega)
            have hs4 := hR.hb.size
            have hc5 := chg_setRow (WD.setRow w.heap.size #[.int .i8 0, .int .i64 0, .string ⟨#[]⟩, .string ⟨#[]⟩, .slice none 0 0]) (w.heap.size + 1) #[.int .i8 i.x.k, .int .i64 i.x.n, .string i.x.s, .string i.x.u, .slice i.x.ao i.x.l.length i.x.cap]
            have hB := setRow_heap (WD.setRow w.heap.size #[.int .i8 0, .int .i64 0, .string ⟨#[]⟩, .string ⟨#[]⟩, .slice none 0 0]) (w.heap.size + 1) zT #[.int .i8 i.x.k, .int .i64 i.x.n, .string i.x.s, .string i.x.u, .slice i.x.ao i.x.l.length i.x.cap] 25 (0, 0) h6a
            have hA5 := hc5.heap hA (show w.heap.size ≠ w.heap.size + 1 by omega)
            have hb5 := bel_setRow hb4 hb4.size (Nat.le_succ _) #[.int .i8 i.x.k, .int .i64 i.x.n, .string i.x.s, .string i.x.u, .slice i.x.ao i.x.l.length i.x.cap]
            have hS4 := hS.chg hc4 (ZxS.of hA) (by omega)
            have hS5 := hS4.chg hc5 (ZxS.of hA5) (by omega)
            refine plan_run rfl ?_ (fun K hK => ?_)
            focus (rfl)
            refine wp_store_row 25 (.tmp 5) (.tmp 67) rfl w.heap.size #[.int .i8 0, .int .i64 0, .string ⟨#[]⟩, .string ⟨#[]⟩, .slice none 0 0] rfl rfl 25 zT hR.h5 (infoTM' _ rfl) rfl (by simp [Value.oneCell']) ?_
            refine hK.out _ _ (hS4) ?_
            clear hK K
            (try simp only [Act.put, List.setIfInBounds_toArray, List.set_cons_zero, List.set_cons_succ])
            refine plan_run rfl ?_ (fun K hK => ?_)
            focus (rfl)
            refine wp_store_row 25 (.tmp 6) (.tmp 68) rfl (w.heap.size + 1) #[.int .i8 i.x.k, .int .i64 i.x.n, .string i.x.s, .string i.x.u, .slice i.x.ao i.x.l.length i.x.cap] rfl rfl 25 zT h6a (infoTM' _ rfl) rfl (by simp [Value.oneCell']) ?_
            refine hK.out _ _ (hS5) ?_
            clear hK K
            (try simp only [Act.put, List.setIfInBounds_toArray, List.set_cons_zero, List.set_cons_succ])
            refine plan_done ?_
            have HZ := Lib.hid (And.intro hA5 (And.intro hB hb5))
            generalize (WD.setRow w.heap.size #[.int .i8 0, .int .i64 0, .string ⟨#[]⟩, .string ⟨#[]⟩, .slice none 0 0]).setRow (w.heap.size + 1) #[.int .i8 i.x.k, .int .i64 i.x.n, .string i.x.s, .string i.x.u, .slice i.x.ao i.x.l.length i.x.cap] = W3 at *
            clear hS4 hS5 hc4 hc5 hR hS hA hb4 h6a hs4 hB hA5 hb5
            go_wp2_with fail
            exact ret_next HZ.out.1 HZ.out.2.1 rfl Tryz.underlying25 rfl (infoTM' _ rfl) Tryz.underlying25 rfl (infoTM' _ rfl) rfl rfl rfl ⟨4, numT 0 0, i.x, rfl, .inr (.inr (.inr ⟨HPB.out, HNC.out, HIB.out, rfl, rfl, rfl⟩)), numT_ok _ _ _ _ (by omega) (by omega), HXI.out.keep HZ.out.2.2, HZ.out.2.2⟩
          · have HIB := Lib.hid hib
            have hl : i.x.l.length = 2 := by
              unfold isB at hib
              have := (Bool.and_eq_true_iff.1 (Bool.and_eq_true_iff.1 hib).2).1
              exact of_decide_eq_true this
            clear hib
            obtain ⟨b2, o2, y2, e2, ey, hy, py, -⟩ := HXI.out.part (i := 1) (by omega)
            have HY := Lib.hid (And.intro hy (And.intro ey py))
            rw [hl, e2] at x4
            clear hy ey py
            go_wp2_with fail
            have hdr : Below w7.heap.size w7 w7.drew := (Below.refl _ _).drew
            have hN := HN7.out.keep hdr
            have hR := hN.z
            have hpy := HY.out.2.2.keep hR.hb
            have hz := ZxS.of hR.h5
            have HL := Lib.hid hN.hl
            have hS : NsP w.heap.size b2 (o2 + 1 * 5) (.slice (some ⟨b2, o2, none⟩) 2 i.x.cap) y2.k y2.n y2.s y2.u (.slice y2.ao y2.l.length y2.cap) w7.drew :=
              ⟨hz.1, hz.2.1, hz.2.2.1, hz.2.2.2.1, hz.2.2.2.2, keep_cell x4 hdr, hpy.c0, hpy.c1, hpy.c2, hpy.c3, hpy.c4⟩
            have hlb := World.block_lt_of_cell? w _ HY.out.2.2.c0
            have HLB := Lib.hid (show b2 < w.heap.size from hlb)
            rw [show o2 + 1 * 5 = o2 + 5 by omega] at hS
            refine region_plan (NsP w.heap.size b2 (o2 + 5) (.slice (some ⟨b2, o2, none⟩) 2 i.x.cap) y2.k y2.n y2.s y2.u (.slice y2.ao y2.l.length y2.cap)) [(0, 0), (1, 0), (2, 0), (3, 0), (4, 0), (5, 0), (6, 1), (7, 1)] (by kernel_rfl) (by kernel_rfl) (by kernel_rfl) hS ?_
            generalize w7.drew = WD at *
            clear hdr HN7 hN hpy hz x0 x1 x2 x3 x4 hlb
            iterate 6 (first | (refine plan_skip rfl ?_ ?_; (focus (rfl)); (try simp only [Act.put, List.setIfInBounds_toArray, List.set_cons_zero, List.set_cons_succ])) | (refine plan_take (v := ?_) rfl ?_ (fun w hSw => ?_) ?_; rotate_left; (focus (rfl)); (focus (unfold NsP at hSw; (go_simp <;> with_reducible rfl))); (try simp only [Act.put, List.setIfInBounds_toArray, List.set_cons_zero, List.set_cons_succ])))
            have hc4 := chg_setRow WD w.heap.size #[.int .i8 0, .int .i64 0, .string ⟨#[]⟩, .string ⟨#[]⟩, .slice none 0 0]
            have hA := setRow_heap WD w.heap.size zT #[.int .i8 0, .int .i64 0, .string ⟨#[]⟩, .string ⟨#[]⟩, .slice none 0 0] 25 (0, 0) hR.h5
            have hb4 := bel_setRow hR.hb hR.hb.size (Nat.le_refl _) #[.int .i8 0, .int .i64 0, .string ⟨#[]⟩, .string ⟨#[]⟩, .slice none 0 0]
            have h6a := hc4.heap hR.h6 (show w.heap.size + 1 ≠ w.heap.size by omega)
            have hs4 := hR.hb.size
            have hc5 := chg_setRow (WD.setRow w.heap.size #[.int .i8 0, .int .i64 0, .string ⟨#[]⟩, .string ⟨#[]⟩, .slice none 0 0]) (w.heap.size + 1) #[.int .i8 y2.k, .int .i64 y2.n, .string y2.s, .string y2.u, .slice y2.ao y2.l.length y2.cap]
            have hB := setRow_heap (WD.setRow w.heap.size #[.int .i8 0, .int .i64 0, .string ⟨#[]⟩, .string ⟨#[]⟩, .slice none 0 0]) (w.heap.size + 1) zT #[.int .i8 y2.k, .int .i64 y2.n, .string y2.s, .string y2.u, .slice y2.ao y2.l.length y2.cap] 25 (0, 0) h6a
            have hA5 := hc5.heap hA (show w.heap.size ≠ w.heap.size + 1 by omega)
            have hb5 := bel_setRow hb4 hb4.size (Nat.le_succ _) #[.int .i8 y2.k, .int .i64 y2.n, .string y2.s, .string y2.u, .slice y2.ao y2.l.length y2.cap]
            have hS4 := hS.chg hc4 (ZxS.of hA) (by omega) (by have := HLB.out; omega)
            have hS5 := hS4.chg hc5 (ZxS.of hA5) (by omega) (by have := HLB.out; omega)
            refine plan_run rfl ?_ (fun K hK => ?_)
            focus (rfl)
            refine wp_store_row 25 (.tmp 5) (.tmp 62) rfl w.heap.size #[.int .i8 0, .int .i64 0, .string ⟨#[]⟩, .string ⟨#[]⟩, .slice none 0 0] rfl rfl 25 zT hR.h5 (infoTM' _ rfl) rfl (by simp [Value.oneCell']) ?_
            refine hK.out _ _ (hS4) ?_
            clear hK K
            (try simp only [Act.put, List.setIfInBounds_toArray, List.set_cons_zero, List.set_cons_succ])
            refine plan_run rfl ?_ (fun K hK => ?_)
            focus (rfl)
            refine wp_store_row 25 (.tmp 6) (.tmp 66) rfl (w.heap.size + 1) #[.int .i8 y2.k, .int .i64 y2.n, .string y2.s, .string y2.u, .slice y2.ao y2.l.length y2.cap] rfl rfl 25 zT h6a (infoTM' _ rfl) rfl (by simp [Value.oneCell']) ?_
            refine hK.out _ _ (hS5) ?_
            clear hK K
            (try simp only [Act.put, List.setIfInBounds_toArray, List.set_cons_zero, List.set_cons_succ])
            refine plan_done ?_
            have HZ := Lib.hid (And.intro hA5 (And.intro hB hb5))
            generalize (WD.setRow w.heap.size #[.int .i8 0, .int .i64 0, .string ⟨#[]⟩, .string ⟨#[]⟩, .slice none 0 0]).setRow (w.heap.size + 1) #[.int .i8 y2.k, .int .i64 y2.n, .string y2.s, .string y2.u, .slice y2.ao y2.l.length y2.cap] = W3 at *
            clear hS4 hS5 hc4 hc5 hR hS hA hb4 h6a hs4 hB hA5 hb5
            go_wp2_with fail
            exact ret_next HZ.out.1 HZ.out.2.1 rfl Tryz.underlying25 rfl (infoTM' _ rfl) Tryz.underlying25 rfl (infoTM' _ rfl) rfl rfl rfl ⟨3, numT 0 0, y2, rfl, .inr (.inr (.inl ⟨HPB.out, HNC.out, HIB.out, rfl, rfl, HY.out.2.1⟩)), numT_ok _ _ _ _ (by omega) (by omega), HY.out.1.keep HZ.out.2.2, HZ.out.2.2⟩
        · have HCP := Lib.hid (show callP i.x.t = some (p, r, y.t) from HY6.out.2.1)
          have HPR := Lib.hid (call_fields HXI.out HCP.out)
          go_wp2_with fail
          have hdr : Below w6.heap.size w6 w6.drew := (Below.refl _ _).drew
          have hN := HN6.out.keep hdr
          have hS : BxS q12 y w6.drew := HB6.out.1.keep hdr
          have hM := fun k hk => Nat.lt_of_lt_of_le (HM6.out k hk) hdr.size
          have hy := HY6.out.1.keep hdr
          have HQ := Lib.hid HB6.out.2
          refine region_plan (BxS q12 y) [(0, 0), (1, 0), (2, 0), (3, 0), (6, 0), (4, 1), (5, 1), (7, 0), (8, 1), (9, 1)] (by kernel_rfl) (by kernel_rfl) (by kernel_rfl) hS ?_
          generalize w6.drew = WD at *
          clear hdr HN6 HM6 HY6 HB6
          iterate 5 (first | (refine plan_skip rfl ?_ ?_; (focus (rfl)); (try simp only [Act.put, List.setIfInBounds_toArray, List.set_cons_zero, List.set_cons_succ])) | (refine plan_take (v := ?_) rfl ?_ (fun w hSw => ?_) ?_; rotate_left; (focus (rfl)); (focus (unfold BxS at hSw; (go_simp <;> with_reducible rfl))); (try simp only [Act.put, List.setIfInBounds_toArray, List.set_cons_zero, List.set_cons_succ])))
          have hba := (Below.refl WD.heap.size WD).alloc (Nat.le_refl _) (.cells #[.int .i8 4, .int .i64 p, .string ⟨#[]⟩, .string ⟨#[]⟩, .slice none 0 0, .int .i8 2, .int .i64 r, .string ⟨#[]⟩, .string ⟨#[]⟩, .slice none 0 0] 25)
          have hSa := hS.keep hba
          have hta := two_tes _ WD hM (numT 4 p) (numT 2 r) (numT_ok _ _ _ _ (by omega) HPR.out.1) (numT_ok _ _ _ _ (by omega) HPR.out.2)
          have hNa := hN.keep hba
          have hMa := fun k hk => Nat.lt_of_lt_of_le (hM k hk) hba.size
          have hya := hy.keep hba
          have HT := Lib.hid (stuple_any _ (WD.alloc (.cells #[.int .i8 4, .int .i64 p, .string ⟨#[]⟩, .string ⟨#[]⟩, .slice none 0 0, .int .i8 2, .int .i64 r, .string ⟨#[]⟩, .string ⟨#[]⟩, .slice none 0 0] 25)) hMa (keepCells HX.out.2 hNa.z.hb) _ _ hta (fun c => .inl (by simp)) (by simp))
          refine plan_run rfl ?_ (fun K hK => ?_)
          focus (rfl)
          go_simp
          refine hK.out _ _ (hSa) ?_
          clear hK K
          (try simp only [Act.put, List.setIfInBounds_toArray, List.set_cons_zero, List.set_cons_succ])
          clear hba hta hS hN hM hy
          generalize WD.alloc (.cells #[.int .i8 4, .int .i64 p, .string ⟨#[]⟩, .string ⟨#[]⟩, .slice none 0 0, .int .i8 2, .int .i64 r, .string ⟨#[]⟩, .string ⟨#[]⟩, .slice none 0 0] 25) = Wa at *
          refine plan_run rfl ?_ (fun K hK => ?_)
          focus (rfl)
          go_simp
          refine (HT.out).mono ?_
          rintro e W2 ⟨v, rfl, hvt, hv, hb2⟩
          have hS2 := hSa.keep hb2
          have hN2 := hNa.keep hb2
          have hy2 := hya.keep hb2
          refine hK.out _ _ hS2 ?_
          clear hK K 
          (try simp only [Act.put, List.setIfInBounds_toArray, List.set_cons_zero, List.set_cons_succ])
          clear hSa hNa hMa hya HT hb2
          have hL : ([numT 4 p, numT 2 r] : List TE).map TE.t = [.mk 4 p ⟨#[]⟩ ⟨#[]⟩ [], .mk 2 r ⟨#[]⟩ ⟨#[]⟩ []] := rfl
          rw [hL] at hvt
          iterate 1 (first | (refine plan_skip rfl ?_ ?_; (focus (rfl)); (try simp only [Act.put, List.setIfInBounds_toArray, List.set_cons_zero, List.set_cons_succ])) | (refine plan_take (v := ?_) rfl ?_ (fun w hSw => ?_) ?_; rotate_left; (focus (rfl)); (focus (unfold BxS at hSw; (go_simp <;> with_reducible rfl))); (try simp only [Act.put, List.setIfInBounds_toArray, List.set_cons_zero, List.set_cons_succ])))
          have hR := hN2.z
          have HL := Lib.hid hN2.hl
          generalize W2 = WD at *
          have hc4 := chg_setRow WD w.heap.size #[.int .i8 v.k, .int .i64 v.n, .string v.s, .string v.u, .slice v.ao v.l.length v.cap]
          have hA := setRow_heap WD w.heap.size zT #[.int .i8 v.k, .int .i64 v.n, .string v.s, .string v.u, .slice v.ao v.l.length v.cap] 25 (0, 0) hR.h5
          have hb4 := bel_setRow hR.hb hR.hb.size (Nat.le_refl _) #[.int .i8 v.k, .int .i64 v.n, .string v.s, .string v.u, .slice v.ao v.l.length v.cap]
          have h6a := hc4.heap hR.h6 (show w.heap.size + 1 ≠ w.heap.size by omega)
          have hs4 := hR.hb.size
          have hc5 := chg_setRow (WD.setRow w.heap.size #[.int .i8 v.k, .int .i64 v.n, .string v.s, .string v.u, .slice v.ao v.l.length v.cap]) (w.heap.size + 1) #[.int .i8 y.k, .int .i64 y.n, .string y.s, .string y.u, .slice y.ao y.l.length y.cap]
          have hB := setRow_heap (WD.setRow w.heap.size #[.int .i8 v.k, .int .i64 v.n, .string v.s, .string v.u, .slice v.ao v.l.length v.cap]) (w.heap.size + 1) zT #[.int .i8 y.k, .int .i64 y.n, .string y.s, .string y.u, .slice y.ao y.l.length y.cap] 25 (0, 0) h6a
          have hA5 := hc5.heap hA (show w.heap.size ≠ w.heap.size + 1 by omega)
          have hb5 := bel_setRow hb4 hb4.size (Nat.le_succ _) #[.int .i8 y.k, .int .i64 y.n, .string y.s, .string y.u, .slice y.ao y.l.length y.cap]
          have hq1 : ¬ (q12 = w.heap.size) := by have := HQ.out; omega
          have hq2 : ¬ (q12 = w.heap.size + 1) := by have := HQ.out; omega
          have hS4 : BxS q12 y (WD.setRow w.heap.size #[.int .i8 v.k, .int .i64 v.n, .string v.s, .string v.u, .slice v.ao v.l.length v.cap]) := ⟨hc4.cell hS2.1 hq1, hc4.cell hS2.2.1 hq1, hc4.cell hS2.2.2.1 hq1, hc4.cell hS2.2.2.2.1 hq1, hc4.cell hS2.2.2.2.2 hq1⟩
          have hS5 : BxS q12 y ((WD.setRow w.heap.size #[.int .i8 v.k, .int .i64 v.n, .string v.s, .string v.u, .slice v.ao v.l.length v.cap]).setRow (w.heap.size + 1) #[.int .i8 y.k, .int .i64 y.n, .string y.s, .string y.u, .slice y.ao y.l.length y.cap]) := ⟨hc5.cell hS4.1 hq2, hc5.cell hS4.2.1 hq2, hc5.cell hS4.2.2.1 hq2, hc5.cell hS4.2.2.2.1 hq2, hc5.cell hS4.2.2.2.2 hq2⟩
          have hv5 := (hv.chg (M' := fun k => M k ∨ k = w.heap.size + 1) hc4 (fun k e _ => .inr (.inl e)) (fun k hk _ => hk.elim .inl fun e => .inr (.inr e))).chg (M' := M) hc5 (fun k e _ => .inr e) (fun k hk _ => .inl hk)
          have hy5 := (hy2.chg (M' := fun k => M k ∨ k = w.heap.size + 1) hc4 (fun k e _ => .inr (.inl e)) (fun k hk _ => hk.elim .inl fun e => .inr (.inr e))).chg (M' := M) hc5 (fun k e _ => .inr e) (fun k hk _ => .inl hk)
          refine plan_run rfl ?_ (fun K hK => ?_)
          focus (rfl)
          refine wp_store_row 25 (.tmp 5) (.tmp 57) rfl w.heap.size #[.int .i8 v.k, .int .i64 v.n, .string v.s, .string v.u, .slice v.ao v.l.length v.cap] rfl rfl 25 zT hR.h5 (infoTM' _ rfl) rfl (by simp [Value.oneCell']) ?_
          refine hK.out _ _ (hS4) ?_
          clear hK K
          (try simp only [Act.put, List.setIfInBounds_toArray, List.set_cons_zero, List.set_cons_succ])
          refine plan_run rfl ?_ (fun K hK => ?_)
          focus (rfl)
          refine wp_store_row 25 (.tmp 6) (.tmp 58) rfl (w.heap.size + 1) #[.int .i8 y.k, .int .i64 y.n, .string y.s, .string y.u, .slice y.ao y.l.length y.cap] rfl rfl 25 zT h6a (infoTM' _ rfl) rfl (by simp [Value.oneCell']) ?_
          refine hK.out _ _ (hS5) ?_
          clear hK K
          (try simp only [Act.put, List.setIfInBounds_toArray, List.set_cons_zero, List.set_cons_succ])
          refine plan_done ?_
          have HZ := Lib.hid (And.intro hA5 (And.intro hB hb5))
          have HV := Lib.hid (And.intro hvt (And.intro hv5 hy5))
          generalize (WD.setRow w.heap.size #[.int .i8 v.k, .int .i64 v.n, .string v.s, .string v.u, .slice v.ao v.l.length v.cap]).setRow (w.heap.size + 1) #[.int .i8 y.k, .int .i64 y.n, .string y.s, .string y.u, .slice y.ao y.l.length y.cap] = W3 at *
          clear hS4 hS5 hc4 hc5 hR hA hb4 h6a hs4 hB hA5 hb5 hv5 hy5 hq1 hq2 hvt hv hy2 hS2 hN2
          go_wp2_with fail
          exact ret_next HZ.out.1 HZ.out.2.1 rfl Tryz.underlying25 rfl (infoTM' _ rfl) Tryz.underlying25 rfl (infoTM' _ rfl) rfl rfl rfl ⟨2, v, y, rfl, .inr (.inl ⟨HPB.out, p, r, y.t, HCP.out, rfl, HV.out.1, rfl⟩), HV.out.2.1, HV.out.2.2, HZ.out.2.2⟩
      · rw [hf]
        clear hf
        go_wp2_with fail
        refine HC.out.mono ?_
        clear HC x0 x1 x2 x3 x4
        rintro e w5 ⟨y, p, r, bb, rfl, hy, hb5, hcp, hz⟩
        have HN5 := Lib.hid (HN4.out.keep hb5)
        have HM5 := Lib.hid (fun k hk => Nat.lt_of_lt_of_le (HM4.out k hk) hb5.size)
        have HY := Lib.hid (And.intro hy (And.intro hcp hz))
        clear hb5 HN4 HM4 hy hcp hz
        simp only [TE.cells]
        go_wp2_with (with_reducible refine stop_op (o := ⟨_, .store 25 (.tmp 12) (.tmp 48), _, _, _, _⟩) ?_)
        refine Lib.hid ?_
        refine wpList_store_new (o := ⟨none, _, _, _, _, _⟩) rfl 25 (.tmp 12) (.tmp 48) rfl #[.int .i8 y.k, .int .i64 y.n, .string y.s, .string y.u, .slice y.ao y.l.length y.cap] rfl rfl (infoTM' _ rfl) rfl (by simp [Value.oneCell']) ?_
        have hb6 := (Below.refl w5.heap.size w5).alloc (Nat.le_refl _) (.cells #[.int .i8 y.k, .int .i64 y.n, .string y.s, .string y.u, .slice y.ao y.l.length y.cap] 25)
        have HN6 := Lib.hid (HN5.out.keep hb6)
        have HM6 := Lib.hid (fun k hk => Nat.lt_of_lt_of_le (HM5.out k hk) hb6.size)
        have HY6 := Lib.hid (And.intro (HY.out.1.keep hb6) HY.out.2)
        have HB6 := Lib.hid (And.intro (BxS.of (x := y) (heap_new w5 (.cells #[.int .i8 y.k, .int .i64 y.n, .string y.s, .string y.u, .slice y.ao y.l.length y.cap] 25))) HN5.out.hl)
        clear hb6 HN5 HM5 HY
        generalize w5.alloc (.cells #[.int .i8 y.k, .int .i64 y.n, .string y.s, .string y.u, .slice y.ao y.l.length y.cap] 25) = w6 at *
        generalize w5.heap.size = q12 at *
        cases bb
        · have HNC := Lib.hid (show callP i.x.t = none from HY6.out.2.1)
          clear HB6 HM6 HY6
          obtain ⟨x0, x1, x2, x3, x4⟩ := BxS.of HN6.out.h7
          have HIS := Lib.hid (sis_any M w6 i.x gcaS 2 (HXI.out.keep HN6.out.z.hb) (by omega) (by omega))
          have hxc : (.agg i.x.cells.toArray : Value) = .agg #[.int .i8 i.x.k, .int .i64 i.x.n, .string i.x.s, .string i.x.u, .slice i.x.ao i.x.l.length i.x.cap] := rfl
          rw [hxc] at HIS
          clear hxc
          go_wp2_with fail
          refine HIS.out.mono ?_
          clear HIS
          rintro e w7 ⟨rfl, hb7⟩
          have HN7 := Lib.hid (HN6.out.keep hb7)
          clear hb7 HN6 x0 x1 x2 x3 x4
          obtain ⟨x0, x1, x2, x3, x4⟩ := BxS.of HN7.out.h7
          cases hib : isB i.x.t gcaS 2
          · have HIB := Lib.hid hib
            clear hib
            go_wp2_with fail
            have hdr : Below w7.heap.size w7 w7.drew := (Below.refl _ _).drew
            have hN := HN7.out.keep hdr
            have hR := hN.z
            have hz := ZxS.of hR.h5
            have hx := BxS.of hN.h7
            have HL := Lib.hid hN.hl
            have hS : NsX w.heap.size i.x w7.drew := ⟨hz.1, hz.2.1, hz.2.2.1, hz.2.2.2.1, hz.2.2.2.2, hx.1, hx.2.1, hx.2.2.1, hx.2.2.2.1, hx.2.2.2.2⟩
            refine region_plan (NsX w.heap.size i.x) [(0, 0), (1, 0), (2, 0), (3, 1), (4, 1)] (by kernel_rfl) (by kernel_rfl) (by kernel_rfl) hS ?_
            generalize w7.drew = WD at *
            clear hdr HN7 hN hz x0 x1 x2 x3 x4 hx
            iterate 3 (first | (refine plan_skip rfl ?_ ?_; (focus (rfl)); (try simp only [Act.put, List.setIfInBounds_toArray, List.set_cons_zero, List.set_cons_succ])) | (refine plan_take (v := ?_) rfl ?_ (fun w hSw => ?_) ?_; rotate_left; (focus (rfl)); (focus (unfold NsX at hSw; (go_simp <;> with_reducible rfl))); (try simp only [Act.put, List.setIfInBounds_toArray, List.set_cons_zero, List.set_cons_succ])))
            have hc4 := chg_setRow WD w.heap.size #[.int .i8 0, .int .i64 0, .string ⟨#[]⟩, .string ⟨#[]⟩, .slice none 0 0]
            have hA := setRow_heap WD w.heap.size zT #[.int .i8 0, .int .i64 0, .string ⟨#[]⟩, .string ⟨#[]⟩, .slice none 0 0] 25 (0, 0) hR.h5
            have hb4 := bel_setRow hR.hb hR.hb.size (Nat.le_refl _) #[.int .i8 0, .int .i64 0, .string ⟨#[]⟩, .string ⟨#[]⟩, .slice none 0 0]
            have h6a := hc4.heap hR.h6 (show w.heap.size + 1 ≠ w.heap.size by omega)
            have hs4 := hR.hb.size
            have hc5 := chg_setRow (WD.setRow w.heap.size #[.int .i8 0, .int .i64 0, .string ⟨#[]⟩, .string ⟨#[]⟩, .slice none 0 0]) (w.heap.size + 1) #[.int .i8 i.x.k, .int .i64 i.x.n, .string i.x.s, .string i.x.u, .slice i.x.ao i.x.l.length i.x.cap]
            have hB := setRow_heap (WD.setRow w.heap.size #[.int .i8 0, .int .i64 0, .string ⟨#[]⟩, .string ⟨#[]⟩, .slice none 0 0]) (w.heap.size + 1) zT #[.int .i8 i.x.k, .int .i64 i.x.n, .string i.x.s, .string i.x.u, .slice i.x.ao i.x.l.length i.x.cap] 25 (0, 0) h6a
            have hA5 := hc5.heap hA (show w.heap.size ≠ w.heap.size + 1 by omega)
            have hb5 := bel_setRow hb4 hb4.size (Nat.le_succ _) #[.int .i8 i.x.k, .int .i64 i.x.n, .string i.x.s, .string i.x.u, .slice i.x.ao i.x.l.length i.x.cap]
            have hS4 := hS.chg hc4 (ZxS.of hA) (by omega)
            have hS5 := hS4.chg hc5 (ZxS.of hA5) (by omega)
            refine plan_run rfl ?_ (fun K hK => ?_)
            focus (rfl)
            refine wp_store_row 25 (.tmp 5) (.tmp 67) rfl w.heap.size #[.int .i8 0, .int .i64 0, .string ⟨#[]⟩, .string ⟨#[]⟩, .slice none 0 0] rfl rfl 25 zT hR.h5 (infoTM' _ rfl) rfl (by simp [Value.oneCell']) ?_
            refine hK.out _ _ (hS4) ?_
            clear hK K
            (try simp only [Act.put, List.setIfInBounds_toArray, List.set_cons_zero, List.set_cons_succ])
            refine plan_run rfl ?_ (fun K hK => ?_)
            focus (rfl)
            refine wp_store_row 25 (.tmp 6) (.tmp 68) rfl (w.heap.size + 1) #[.int .i8 i.x.k, .int .i64 i.x.n, .string i.x.s, .string i.x.u, .slice i.x.ao i.x.l.length i.x.cap] rfl rfl 25 zT h6a (infoTM' _ rfl) rfl (by simp [Value.oneCell']) ?_
            refine hK.out _ _ (hS5) ?_
            clear hK K
            (try simp only [Act.put, List.setIfInBounds_toArray, List.set_cons_zero, List.set_cons_succ])
            refine plan_done ?_
            have HZ := Lib.hid (And.intro hA5 (And.intro hB hb5))
            generalize (WD.setRow w.heap.size #[.int .i8 0, .int .i64 0, .string ⟨#[]⟩, .string ⟨#[]⟩, .slice none 0 0]).setRow (w.heap.size + 1) #[.int .i8 i.x.k, .int .i64 i.x.n, .string i.x.s, .string i.x.u, .slice i.x.ao i.x.l.length i.x.cap] = W3 at *
            clear hS4 hS5 hc4 hc5 hR hS hA hb4 h6a hs4 hB hA5 hb5
            go_wp2_with fail
            exact ret_next HZ.out.1 HZ.out.2.1 rfl Tryz.underlying25 rfl (infoTM' _ rfl) Tryz.underlying25 rfl (infoTM' _ rfl) rfl rfl rfl ⟨4, numT 0 0, i.x, rfl, .inr (.inr (.inr ⟨HPB.out, HNC.out, HIB.out, rfl, rfl, rfl⟩)), numT_ok _ _ _ _ (by omega) (by omega), HXI.out.keep HZ.out.2.2, HZ.out.2.2⟩
          · have HIB := Lib.hid hib
            have hl : i.x.l.length = 2 := by
              unfold isB at hib
              have := (Bool.and_eq_true_iff.1 (Bool.and_eq_true_iff.1 hib).2).1
              exact of_decide_eq_true this
            clear hib
            obtain ⟨b2, o2, y2, e2, ey, hy, py, -⟩ := HXI.out.part (i := 1) (by omega)
            have HY := Lib.hid (And.intro hy (And.intro ey py))
            rw [hl, e2] at x4
            clear hy ey py
            go_wp2_with fail
            have hdr : Below w7.heap.size w7 w7.drew := (Below.refl _ _).drew
            have hN := HN7.out.keep hdr
            have hR := hN.z
            have hpy := HY.out.2.2.keep hR.hb
            have hz := ZxS.of hR.h5
            have HL := Lib.hid hN.hl
            have hS : NsP w.heap.size b2 (o2 + 1 * 5) (.slice (some ⟨b2, o2, none⟩) 2 i.x.cap) y2.k y2.n y2.s y2.u (.slice y2.ao y2.l.length y2.cap) w7.drew :=
              ⟨hz.1, hz.2.1, hz.2.2.1, hz.2.2.2.1, hz.2.2.2.2, keep_cell x4 hdr, hpy.c0, hpy.c1, hpy.c2, hpy.c3, hpy.c4⟩
            have hlb := World.block_lt_of_cell? w _ HY.out.2.2.c0
            have HLB := Lib.hid (show b2 < w.heap.size from hlb)
            rw [show o2 + 1 * 5 = o2 + 5 by omega] at hS
            refine region_plan (NsP w.heap.size b2 (o2 + 5) (.slice (some ⟨b2, o2, none⟩) 2 i.x.cap) y2.k y2.n y2.s y2.u (.slice y2.ao y2.l.length y2.cap)) [(0, 0), (1, 0), (2, 0), (3, 0), (4, 0), (5, 0), (6, 1), (7, 1)] (by kernel_rfl) (by kernel_rfl) (by kernel_rfl) hS ?_
            generalize w7.drew = WD at *
            clear hdr HN7 hN hpy hz x0 x1 x2 x3 x4 hlb
            iterate 6 (first | (refine plan_skip rfl ?_ ?_; (focus (rfl)); (try simp only [Act.put, List.setIfInBounds_toArray, List.set_cons_zero, List.set_cons_succ])) | (refine plan_take (v := ?_) rfl ?_ (fun w hSw => ?_) ?_; rotate_left; (focus (rfl)); (focus (unfold NsP at hSw; (go_simp <;> with_reducible rfl))); (try simp only [Act.put, List.setIfInBounds_toArray, List.set_cons_zero, List.set_cons_succ])))
            have hc4 := chg_setRow WD w.heap.size #[.int .i8 0, .int .i64 0, .string ⟨#[]⟩, .string ⟨#[]⟩, .slice none 0 0]
            have hA := setRow_heap WD w.heap.size zT #[.int .i8 0, .int .i64 0, .string ⟨#[]⟩, .string ⟨#[]⟩, .slice none 0 0] 25 (0, 0) hR.h5
            have hb4 := bel_setRow hR.hb hR.hb.size (Nat.le_refl _) #[.int .i8 0, .int .i64 0, .string ⟨#[]⟩, .string ⟨#[]⟩, .slice none 0 0]
            have h6a := hc4.heap hR.h6 (show w.heap.size + 1 ≠ w.heap.size by omega)
            have hs4 := hR.hb.size
            have hc5 := chg_setRow (WD.setRow w.heap.size #[.int .i8 0, .int .i64 0, .string ⟨#[]⟩, .string ⟨#[]⟩, .slice none 0 0]) (w.heap.size + 1) #[.int .i8 y2.k, .int .i64 y2.n, .string y2.s, .string y2.u, .slice y2.ao y2.l.length y2.cap]
            have hB := setRow_heap (WD.setRow w.heap.size #[.int .i8 0, .int .i64 0, .string ⟨#[]⟩, .string ⟨#[]⟩, .slice none 0 0]) (w.heap.size + 1) zT #[.int .i8 y2.k, .int .i64 y2.n, .string y2.s, .string y2.u, .slice y2.ao y2.l.length y2.cap] 25 (0, 0) h6a
            have hA5 := hc5.heap hA (show w.heap.size ≠ w.heap.size + 1 by omega)
            have hb5 := bel_setRow hb4 hb4.size (Nat.le_succ _) #[.int .i8 y2.k, .int .i64 y2.n, .string y2.s, .string y2.u, .slice y2.ao y2.l.length y2.cap]
            have hS4 := hS.chg hc4 (ZxS.of hA) (by omega) (by have := HLB.out; omega)
            have hS5 := hS4.chg hc5 (ZxS.of hA5) (by omega) (by have := HLB.out; omega)
            refine plan_run rfl ?_ (fun K hK => ?_)
            focus (rfl)
            refine wp_store_row 25 (.tmp 5) (.tmp 62) rfl w.heap.size #[.int .i8 0, .int .i64 0, .string ⟨#[]⟩, .string ⟨#[]⟩, .slice none 0 0] rfl rfl 25 zT hR.h5 (infoTM' _ rfl) rfl (by simp [Value.oneCell']) ?_
            refine hK.out _ _ (hS4) ?_
            clear hK K
            (try simp only [Act.put, List.setIfInBounds_toArray, List.set_cons_zero, List.set_cons_succ])
            refine plan_run rfl ?_ (fun K hK => ?_)
            focus (rfl)
            refine wp_store_row 25 (.tmp 6) (.tmp 66) rfl (w.heap.size + 1) #[.int .i8 y2.k, .int .i64 y2.n, .string y2.s, .string y2.u, .slice y2.ao y2.l.length y2.cap] rfl rfl 25 zT h6a (infoTM' _ rfl) rfl (by simp [Value.oneCell']) ?_
            refine hK.out _ _ (hS5) ?_
            clear hK K
            (try simp only [Act.put, List.setIfInBounds_toArray, List.set_cons_zero, List.set_cons_succ])
            refine plan_done ?_
            have HZ := Lib.hid (And.intro hA5 (And.intro hB hb5))
            generalize (WD.setRow w.heap.size #[.int .i8 0, .int .i64 0, .string ⟨#[]⟩, .string ⟨#[]⟩, .slice none 0 0]).setRow (w.heap.size + 1) #[.int .i8 y2.k, .int .i64 y2.n, .string y2.s, .string y2.u, .slice y2.ao y2.l.length y2.cap] = W3 at *
            clear hS4 hS5 hc4 hc5 hR hS hA hb4 h6a hs4 hB hA5 hb5
            go_wp2_with fail
            exact ret_next HZ.out.1 HZ.out.2.1 rfl Tryz.underlying25 rfl (infoTM' _ rfl) Tryz.underlying25 rfl (infoTM' _ rfl) rfl rfl rfl ⟨3, numT 0 0, y2, rfl, .inr (.inr (.inl ⟨HPB.out, HNC.out, HIB.out, rfl, rfl, HY.out.2.1⟩)), numT_ok _ _ _ _ (by omega) (by omega), HY.out.1.keep HZ.out.2.2, HZ.out.2.2⟩
        · have HCP := Lib.hid (show callP i.x.t = some (p, r, y.t) from HY6.out.2.1)
          have HPR := Lib.hid (call_fields HXI.out HCP.out)
          go_wp2_with fail
          have hdr : Below w6.heap.size w6 w6.drew := (Below.refl _ _).drew
          have hN := HN6.out.keep hdr
          have hS : BxS q12 y w6.drew := HB6.out.1.keep hdr
          have hM := fun k hk => Nat.lt_of_lt_of_le (HM6.out k hk) hdr.size
          have hy := HY6.out.1.keep hdr
          have HQ := Lib.hid HB6.out.2
          refine region_plan (BxS q12 y) [(0, 0), (1, 0), (2, 0), (3, 0), (6, 0), (4, 1), (5, 1), (7, 0), (8, 1), (9, 1)] (by kernel_rfl) (by kernel_rfl) (by kernel_rfl) hS ?_
          generalize w6.drew = WD at *
          clear hdr HN6 HM6 HY6 HB6
          iterate 5 (first | (refine plan_skip rfl ?_ ?_; (focus (rfl)); (try simp only [Act.put, List.setIfInBounds_toArray, List.set_cons_zero, List.set_cons_succ])) | (refine plan_take (v := ?_) rfl ?_ (fun w hSw => ?_) ?_; rotate_left; (focus (rfl)); (focus (unfold BxS at hSw; (go_simp <;> with_reducible rfl))); (try simp only [Act.put, List.setIfInBounds_toArray, List.set_cons_zero, List.set_cons_succ])))
          have hba := (Below.refl WD.heap.size WD).alloc (Nat.le_refl _) (.cells #[.int .i8 4, .int .i64 p, .string ⟨#[]⟩, .string ⟨#[]⟩, .slice none 0 0, .int .i8 2, .int .i64 r, .string ⟨#[]⟩, .string ⟨#[]⟩, .slice none 0 0] 25)
          have hSa := hS.keep hba
          have hta := two_tes _ WD hM (numT 4 p) (numT 2 r) (numT_ok _ _ _ _ (by omega) HPR.out.1) (numT_ok _ _ _ _ (by omega) HPR.out.2)
          have hNa := hN.keep hba
          have hMa := fun k hk => Nat.lt_of_lt_of_le (hM k hk) hba.size
          have hya := hy.keep hba
          have HT := Lib.hid (stuple_any _ (WD.alloc (.cells #[.int .i8 4, .int .i64 p, .string ⟨#[]⟩, .string ⟨#[]⟩, .slice none 0 0, .int .i8 2, .int .i64 r, .string ⟨#[]⟩, .string ⟨#[]⟩, .slice none 0 0] 25)) hMa (keepCells HX.out.2 hNa.z.hb) _ _ hta (fun c => .inl (by simp)) (by simp))
          refine plan_run rfl ?_ (fun K hK => ?_)
          focus (rfl)
          go_simp
          refine hK.out _ _ (hSa) ?_
          clear hK K
          (try simp only [Act.put, List.setIfInBounds_toArray, List.set_cons_zero, List.set_cons_succ])
          clear hba hta hS hN hM hy
          generalize WD.alloc (.cells #[.int .i8 4, .int .i64 p, .string ⟨#[]⟩, .string ⟨#[]⟩, .slice none 0 0, .int .i8 2, .int .i64 r, .string ⟨#[]⟩, .string ⟨#[]⟩, .slice none 0 0] 25) = Wa at *
          refine plan_run rfl ?_ (fun K hK => ?_)
          focus (rfl)
          go_simp
          refine (HT.out).mono ?_
          rintro e W2 ⟨v, rfl, hvt, hv, hb2⟩
          have hS2 := hSa.keep hb2
          have hN2 := hNa.keep hb2
          have hy2 := hya.keep hb2
          refine hK.out _ _ hS2 ?_
          clear hK K 
          (try simp only [Act.put, List.setIfInBounds_toArray, List.set_cons_zero, List.set_cons_succ])
          clear hSa hNa hMa hya HT hb2
          have hL : ([numT 4 p, numT 2 r] : List TE).map TE.t = [.mk 4 p ⟨#[]⟩ ⟨#[]⟩ [], .mk 2 r ⟨#[]⟩ ⟨#[]⟩ []] := rfl
          rw [hL] at hvt
          iterate 1 (first | (refine plan_skip rfl ?_ ?_; (focus (rfl)); (try simp only [Act.put, List.setIfInBounds_toArray, List.set_cons_zero, List.set_cons_succ])) | (refine plan_take (v := ?_) rfl ?_ (fun w hSw => ?_) ?_; rotate_left; (focus (rfl)); (focus (unfold BxS at hSw; (go_simp <;> with_reducible rfl))); (try simp only [Act.put, List.setIfInBounds_toArray, List.set_cons_zero, List.set_cons_succ])))
          have hR := hN2.z
          have HL := Lib.hid hN2.hl
          generalize W2 = WD at *
          have hc4 := chg_setRow WD w.heap.size #[.int .i8 v.k, .int .i64 v.n, .string v.s, .string v.u, .slice v.ao v.l.length v.cap]
          have hA := setRow_heap WD w.heap.size zT #[.int .i8 v.k, .int .i64 v.n, .string v.s, .string v.u, .slice v.ao v.l.length v.cap] 25 (0, 0) hR.h5
          have hb4 := bel_setRow hR.hb hR.hb.size (Nat.le_refl _) #[.int .i8 v.k, .int .i64 v.n, .string v.s, .string v.u, .slice v.ao v.l.length v.cap]
          have h6a := hc4.heap hR.h6 (show w.heap.size + 1 ≠ w.heap.size by omega)
          have hs4 := hR.hb.size
          have hc5 := chg_setRow (WD.setRow w.heap.size #[.int .i8 v.k, .int .i64 v.n, .string v.s, .string v.u, .slice v.ao v.l.length v.cap]) (w.heap.size + 1) #[.int .i8 y.k, .int .i64 y.n, .string y.s, .string y.u, .slice y.ao y.l.length y.cap]
          have hB := setRow_heap (WD.setRow w.heap.size #[.int .i8 v.k, .int .i64 v.n, .string v.s, .string v.u, .slice v.ao v.l.length v.cap]) (w.heap.size + 1) zT #[.int .i8 y.k, .int .i64 y.n, .string y.s, .string y.u, .slice y.ao y.l.length y.cap] 25 (0, 0) h6a
          have hA5 := hc5.heap hA (show w.heap.size ≠ w.heap.size + 1 by omega)
          have hb5 := bel_setRow hb4 hb4.size (Nat.le_succ _) #[.int .i8 y.k, .int .i64 y.n, .string y.s, .string y.u, .slice y.ao y.l.length y.cap]
          have hq1 : ¬ (q12 = w.heap.size) := by have := HQ.out; omega
          have hq2 : ¬ (q12 = w.heap.size + 1) := by have := HQ.out; omega
          have hS4 : BxS q12 y (WD.setRow w.heap.size #[.int .i8 v.k, .int .i64 v.n, .string v.s, .string v.u, .slice v.ao v.l.length v.cap]) := ⟨hc4.cell hS2.1 hq1, hc4.cell hS2.2.1 hq1, hc4.cell hS2.2.2.1 hq1, hc4.cell hS2.2.2.2.1 hq1, hc4.cell hS2.2.2.2.2 hq1⟩
          have hS5 : BxS q12 y ((WD.setRow w.heap.size #[.int .i8 v.k, .int .i64 v.n, .string v.s, .string v.u, .slice v.ao v.l.length v.cap]).setRow (w.heap.size + 1) #[.int .i8 y.k, .int .i64 y.n, .string y.s, .string y.u, .slice y.ao y.l.length y.cap]) := ⟨hc5.cell hS4.1 hq2, hc5.cell hS4.2.1 hq2, hc5.cell hS4.2.2.1 hq2, hc5.cell hS4.2.2.2.1 hq2, hc5.cell hS4.2.2.2.2 hq2⟩
          have hv5 := (hv.chg (M' := fun k => M k ∨ k = w.heap.size + 1) hc4 (fun k e _ => .inr (.inl e)) (fun k hk _ => hk.elim .inl fun e => .inr (.inr e))).chg (M' := M) hc5 (fun k e _ => .inr e) (fun k hk _ => .inl hk)
          have hy5 := (hy2.chg (M' := fun k => M k ∨ k = w.heap.size + 1) hc4 (fun k e _ => .inr (.inl e)) (fun k hk _ => hk.elim .inl fun e => .inr (.inr e))).chg (M' := M) hc5 (fun k e _ => .inr e) (fun k hk _ => .inl hk)
          refine plan_run rfl ?_ (fun K hK => ?_)
          focus (rfl)
          refine wp_store_row 25 (.tmp 5) (.tmp 57) rfl w.heap.size #[.int .i8 v.k, .int .i64 v.n, .string v.s, .string v.u, .slice v.ao v.l.length v.cap] rfl rfl 25 zT hR.h5 (infoTM' _ rfl) rfl (by simp [Value.oneCell']) ?_
          refine hK.out _ _ (hS4) ?_
          clear hK K
          (try simp only [Act.put, List.setIfInBounds_toArray, List.set_cons_zero, List.set_cons_succ])
          refine plan_run rfl ?_ (fun K hK => ?_)
          focus (rfl)
          refine wp_store_row 25 (.tmp 6) (.tmp 58) rfl (w.heap.size + 1) #[.int .i8 y.k, .int .i64 y.n, .string y.s, .string y.u, .slice y.ao y.l.length y.cap] rfl rfl 25 zT h6a (infoTM' _ rfl) rfl (by simp [Value.oneCell']) ?_
          refine hK.out _ _ (hS5) ?_
          clear hK K
          (try simp only [Act.put, List.setIfInBounds_toArray, List.set_cons_zero, List.set_cons_succ])
          refine plan_done ?_
          have HZ := Lib.hid (And.intro hA5 (And.intro hB hb5))
          have HV := Lib.hid (And.intro hvt (And.intro hv5 hy5))
          generalize (WD.setRow w.heap.size #[.int .i8 v.k, .int .i64 v.n, .string v.s, .string v.u, .slice v.ao v.l.length v.cap]).setRow (w.heap.size + 1) #[.int .i8 y.k, .int .i64 y.n, .string y.s, .string y.u, .slice y.ao y.l.length y.cap] = W3 at *
          clear hS4 hS5 hc4 hc5 hR hA hb4 h6a hs4 hB hA5 hb5 hv5 hy5 hq1 hq2 hvt hv hy2 hS2 hN2
          go_wp2_with fail
          exact ret_next HZ.out.1 HZ.out.2.1 rfl Tryz.underlying25 rfl (infoTM' _ rfl) Tryz.underlying25 rfl (infoTM' _ rfl) rfl rfl rfl ⟨2, v, y, rfl, .inr (.inl ⟨HPB.out, p, r, y.t, HCP.out, rfl, HV.out.1, rfl⟩), HV.out.2.1, HV.out.2.2, HZ.out.2.2⟩
end Go.Proofs.YthpmdeofdlcccaaGreatDoor
