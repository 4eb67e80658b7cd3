/- The law WindowFirst, walked. No conditions beyond the row's own reading. -/
import Derived.Test.YtjjlfaknebbhfaaWp
import Derived.Test.YtjjlfaknebbhfaaWl
namespace Go.Proofs.Ytjjlfaknebbhfaa.Wq
open Go.ChangeShapes Go.WideShapes Go.ChangeAt Go.RowKit Wp
set_option linter.unusedVariables false
set_option maxRecDepth 100000 in
theorem first_out (w : World) (v : Value) (gs : List Int) (maxR maxT : Int) (h : SlI w v gs) (hb : 200 < gs.length ∨ maxR < 0 ∨ maxT < 0 ∨ 1073741824 < maxT) :
    Calls Try.prog 4 #[v, .int .i64 maxR, .int .i64 maxT] w fun e w' => e = .returned (.bool true) ∧ Below w.heap.size w w' := by
  obtain ⟨ao, cap, rfl, h2, h3, h4⟩ := h
  by_cases h1 : 200 < gs.length
  · have hd : decide ((200 : Int) < (gs.length : Int)) = true := by simp; omega
    go_enter Try.func4, Try.ntmps4
    go_wp2_with (go_at_call 10; refine (wakes_any _).mono ?_; rintro e w1 ⟨rfl, hb1⟩)
    go_ret
    exact ⟨rfl, hb1⟩
  · have hd : decide ((200 : Int) < (gs.length : Int)) = false := by simp; omega
    by_cases h2 : maxR < 0
    · have hd2 : decide (maxR < 0) = true := by simpa using h2
      go_enter Try.func4, Try.ntmps4
      go_wp2_with (go_at_call 10; refine (wakes_any _).mono ?_; rintro e w1 ⟨rfl, hb1⟩)
      go_ret
      exact ⟨rfl, hb1⟩
    · have hd2 : decide (maxR < 0) = false := by simpa using h2
      by_cases h3 : maxT < 0
      · have hd3 : decide (maxT < 0) = true := by simpa using h3
        go_enter Try.func4, Try.ntmps4
        go_wp2_with (go_at_call 10; refine (wakes_any _).mono ?_; rintro e w1 ⟨rfl, hb1⟩)
        go_ret
        exact ⟨rfl, hb1⟩
      · have hd3 : decide (maxT < 0) = false := by simpa using h3
        have hd4 : decide (1073741824 < maxT) = true := by simp; omega
        go_enter Try.func4, Try.ntmps4
        go_wp2_with (go_at_call 10; refine (wakes_any _).mono ?_; rintro e w1 ⟨rfl, hb1⟩)
        go_ret
        exact ⟨rfl, hb1⟩
set_option maxRecDepth 100000 in
theorem first_empty (w : World) (ao : Option Addr) (cap : Nat) (maxR maxT : Int) (h1 : 0 ≤ maxR) (h2 : 0 ≤ maxT) (h3 : maxT ≤ 1073741824) :
    Calls Try.prog 4 #[.slice ao 0 cap, .int .i64 maxR, .int .i64 maxT] w fun e w' => e = .returned (.bool true) ∧ Below w.heap.size w w' := by
  have hd2 : decide (maxR < 0) = false := by simp; omega
  have hd3 : decide (maxT < 0) = false := by simp; omega
  have hd4 : decide (1073741824 < maxT) = false := by simp; omega
  go_enter Try.func4, Try.ntmps4
  go_wp2_with fail
  refine wp_loop_rounds 1 ?_
  rw [rounds_succ]
  go_wp2_with (go_at_call 10; refine (wakes_any _).mono ?_; rintro e w1 ⟨rfl, hb1⟩)
  go_ret
  exact ⟨rfl, hb1⟩
theorem count_take (A : List Int) (now t : Int) (k : Nat) (h : k < A.length) : (A.take (k + 1)).countP (late now t) = (A.take k).countP (late now t) + if now - A.getD k 0 ≤ t then 1 else 0 := by
  rw [List.take_succ_eq_append_getElem h, List.countP_append]
  have e : A.getD k 0 = A[k] := by simp [List.getD_eq_getElem?_getD, List.getElem?_eq_getElem h]
  rw [e]
  simp [late, List.countP_cons]
theorem own_keep {w w' : World} {base e size n : Nat} {v : Value} {xs : List Value} (h : w.ownsRow base e size v n xs) (hb : Below w.heap.size w w') : w'.ownsRow base e size v n xs := by
  obtain ⟨h1, h2⟩ := h
  refine ⟨h1, h2.imp id ?_⟩
  rintro ⟨g, cap, cur, hv, hg, hh, r⟩
  refine ⟨g, cap, cur, hv, hg, ?_, r⟩
  rw [hb.block g ?_]
  · exact hh
  · rcases Nat.lt_or_ge g w.heap.size with h | h
    · exact h
    · rw [Array.getElem?_eq_none h] at hh; cases hh
theorem own_base {w : World} {base e size n : Nat} {v : Value} {xs : List Value} (h : w.ownsRow base e size v n xs) : ∀ k, v.ownBlock = some k → base ≤ k := by
  obtain ⟨h1, ⟨rfl, _⟩ | ⟨g, cap, cur, rfl, hg, hh, r⟩⟩ := h
  · intro k hk; cases hk
  · intro k hk; cases hk; exact hg
theorem own_lt {w : World} {base e size n B : Nat} {v : Value} {xs : List Value} (h : w.ownsRow base e size v n xs) (hB : w.heap.size ≤ B) : ∀ k, v.ownBlock = some k → k < B := by
  obtain ⟨h1, ⟨rfl, _⟩ | ⟨g, cap, cur, rfl, hg, hh, r⟩⟩ := h
  · intro k hk; cases hk
  · intro k hk
    cases hk
    show g < B
    rcases Nat.lt_or_ge g w.heap.size with h | h
    · omega
    · rw [Array.getElem?_eq_none h] at hh; cases hh
theorem own_apart {w w' : World} {base e size n : Nat} {v : Value} {xs : List Value} {row : Option Nat} (h : w.ownsRow base e size v n xs) (hg : w.grownBy w' row) (hne : ∀ k, row = some k → k < base) : w'.ownsRow base e size v n xs := by
  obtain ⟨h1, h2⟩ := h
  refine ⟨h1, h2.imp id ?_⟩
  rintro ⟨g, cap, cur, hv, hgb, hh, r⟩
  refine ⟨g, cap, cur, hv, hgb, ?_, r⟩
  rw [hg.block g ?_ ?_]
  · exact hh
  · rcases Nat.lt_or_ge g w.heap.size with h | h
    · exact h
    · rw [Array.getElem?_eq_none h] at hh; cases hh
  · intro he
    have := hne g he.symm
    omega
def AddOwn (w : World) (out : List Int) (e : Ending) (w' : World) : Prop :=
  ∃ v, e = .returned (.tuple #[v, .bool false, .int .i64 0]) ∧ w'.ownsRow w.heap.size 3 1 v out.length (out.map (Value.int .i64)) ∧ Below w.heap.size w w'
theorem Add_own {w : World} {v : Value} {xs : List Int} {now maxR maxT : Int} (h : SlI w v xs) (hm : xs.length ≤ 100000) (hf : fvalid xs now maxT = true) (hr : ((near xs now maxT).length : Int) < maxR) :
    Calls Try.prog 11 #[v, .int .i64 now, .int .i64 maxR, .int .i64 maxT] w (AddOwn w (near xs now maxT ++ [now])) := by
  obtain ⟨i0, hi, hz0, hz1, hz2⟩ := info_parts Try_info3
  have hsl := h
  obtain ⟨ao, cap, rfl, h2, h3, h4⟩ := h
  have hnl := near_len xs now maxT
  obtain ⟨ns, hns⟩ : ∃ ns, ns = near xs now maxT := ⟨_, rfl⟩
  rw [← hns] at hr hnl ⊢
  have HN := Lib.hid hns
  clear hns
  have hr0 : (0 : Int) ≤ maxR := by omega
  go_enter Try.func11, Try.ntmps11
  go_wp2_with (first | (go_at_call 25; refine (found_ok hsl hm hf HN).mono ?_; rintro e w1 ⟨ao1, rfl, hs1, hb1⟩) | (at_builtin; refine wpList_append_grows _ rfl (.tmp 33) (.tmp 35) 22 rfl 3 i0 (.int .i64 0) 1 8 Try.underlying22 hi hz0 hz1 hz2 rfl (by decide) ao1 ns.length ns.length (ns.map (Value.int .i64)) rfl ?_ (by simp) (hs1.keep (Below.alloc (Below.refl _ _) (Nat.le_refl _) _)).cells' ⟨_, 0, none⟩ 1 1 [.int .i64 now] rfl rfl (one_new _ _ _) (by simp [Value.oneCell']) (by omega) (by unfold maxLen; omega) (by omega) ?_))
  · intro h0
    obtain ⟨ao2, c2, e1, _, _, e4⟩ := hs1
    injection e1 with e5 e6 e7
    rcases e4 with ⟨e8, e9⟩ | ⟨_, _, e8, _⟩
    · rw [e8]; exact ⟨rfl, rfl⟩
    · rw [h0] at e5; rw [← e5] at e8; cases e8
  · intro v' w2 hown hgrow
    have hs2 : w2.ownsRow w.heap.size 3 1 v' (ns ++ [now]).length ((ns ++ [now]).map (Value.int .i64)) := by
      have := hb1.size
      rw [List.map_append, List.length_append]
      exact Joins.ownsRow_le hown (by first | omega | (simp; omega))
    have hb2 := grown_below hgrow
    have hbA : Below w.heap.size w w2 := by
      have := hb1.size
      exact keep_below (hb1.alloc (by omega) _) (by simp; omega) hb2
    clear hown hgrow hb2
    go_wp2
    go_ret3
    exact ⟨_, rfl, hs2, hbA⟩
theorem own_some {w : World} {base n ac : Nat} {ao : Option Addr} {A : List Int} (h : w.ownsRow base 3 1 (.slice ao n ac) n (A.map (Value.int .i64))) (h0 : 0 < n) : ∃ q, ao = some ⟨q, 0, none⟩ ∧ ∀ k, k < A.length → w.cell? ⟨q, k, none⟩ = some (.int .i64 (A.getD k 0)) := by
  obtain ⟨g, c, hv, q1, q2, q3, q4, q5⟩ := own_facts h h0
  injection hv with e1 e2 e3
  refine ⟨g, e1, fun k hk => q5 k _ ?_⟩
  simp [List.getD_eq_getElem?_getD, List.getElem?_eq_getElem hk]
set_option maxRecDepth 100000 in
set_option maxHeartbeats 4000000 in
theorem first_any (w : World) (b off cap : Nat) (gs : List Int) (maxR maxT : Int) (h1 : 0 ≤ maxR) (h2 : 0 ≤ maxT) (h3 : maxT ≤ 1073741824) (hl : gs.length ≤ 200) (hmr : maxR ≤ 9223372036854775807)
    (hb : b < w.heap.size) (hc : ∀ i, i < gs.length → w.cell? ⟨b, off + i, none⟩ = some (.int .i64 (gs.getD i 0))) (hne : 0 < gs.length) :
    Calls Try.prog 4 #[.slice (some ⟨b, off, none⟩) gs.length cap, .int .i64 maxR, .int .i64 maxT] w fun e w' => e = .returned (.bool true) ∧ Below w.heap.size w w' := by
  obtain ⟨i0, hi, hz0, hz1, hz2⟩ := info_parts Try_info3
  have hd1 : decide ((200 : Int) < (gs.length : Int)) = false := by simp; omega
  have hd2 : decide (maxR < 0) = false := by simp; omega
  have hd3 : decide (maxT < 0) = false := by simp; omega
  have hd4 : decide (1073741824 < maxT) = false := by simp; omega
  have HC := Lib.hid hc
  clear hc
  go_enter Try.func4, Try.ntmps4
  go_wp2_with fail
  clear hd1 hd2 hd3 hd4
  go_loopw [7, 8, 9, 10] (fun av kv nv iv wr => ∃ (A K : List Int) (last : Int) (ao : Option Addr) (ac : Nat), A.length ≤ gs.length ∧ iv = .int .i64 A.length ∧ nv = .int .i64 last ∧ av = .slice ao A.length ac ∧ 0 ≤ last ∧ last ≤ A.length * 1048576 ∧
      wr.ownsRow w.heap.size 3 1 (.slice ao A.length ac) A.length (A.map (Value.int .i64)) ∧ SlI wr kv K ∧ Below w.heap.size w wr ∧ Hid (Run A K last maxT ∧ ∀ a ∈ A, 0 ≤ a ∧ a ≤ last))
    (fun _ _ _ i _ => gs.length - (intOf i).toNat)
  case atStart => exact ⟨[], [], 0, none, 0, by simp, rfl, rfl, rfl, by omega, by simp, World.ownsRow_nil _ _ _ _, SlI_nil _, Below.refl _ _, ⟨Run.nil maxT, by simp⟩⟩
  case round =>
    obtain ⟨A, K, last, ao, ac, hk, rfl, rfl, rfl, hla0, hla1, hown, hsK, hbw, HR⟩ := hrel
    by_cases hlt : A.length < gs.length
    · have hx : wr.cell? ⟨b, off + A.length, none⟩ = some (.int .i64 (gs.getD A.length 0)) := (hbw.cell (by exact hb)).trans (HC.out _ hlt)
      generalize gs.getD A.length 0 = g at hx
      have hg1 : -1048576 < g.tmod 1048576 := Int.lt_tmod_of_pos g (by omega)
      have hg2 : g.tmod 1048576 < 1048576 := Int.tmod_lt_of_pos g (by omega)
      go_wp2_with fail
      have hM : 0 ≤ g.tmod 1048576 % 1048576 ∧ g.tmod 1048576 % 1048576 < 1048576 := by omega
      obtain ⟨now, hnow⟩ : ∃ now, now = last + g.tmod 1048576 % 1048576 := ⟨_, rfl⟩
      rw [← hnow]
      have hn1 : last ≤ now := by omega
      have hn2 : now ≤ A.length * 1048576 + 1048575 := by omega
      have hn0 : 0 ≤ now := by omega
      have hn3 : now ≤ 1099511627776 := by omega
      clear hnow hM hg1 hg2 hx
      go_loop [11, 12] (fun nv kv => ∃ k : Nat, k ≤ A.length ∧ kv = .int .i64 k ∧ nv = .int .i64 ((A.take k).countP (late now maxT) : Nat)) (fun _ k => A.length - (intOf k).toNat)
      case atStart => exact ⟨0, by omega, rfl, rfl⟩
      case round =>
        obtain ⟨k, hkA, rfl, rfl⟩ := hrel
        have hcl : (A.take k).countP (late now maxT) ≤ k := Nat.le_trans List.countP_le_length (List.length_take_le _ _)
        by_cases hk2 : k < A.length
        · obtain ⟨q, rfl, hq⟩ := own_some hown (by omega)
          have hcy := hq k hk2
          have hby := HR.out.2 (A.getD k 0) (by rw [List.getD_eq_getElem?_getD, List.getElem?_eq_getElem hk2]; simp)
          have hct := count_take A now maxT k hk2
          have hb1 := hby.1
          have hb2 := hby.2
          clear hby hq
          generalize A.getD k 0 = y at hcy hb1 hb2 hct
          have HCT := Lib.hid hct
          clear hct
          by_cases hy : now - y ≤ maxT
          · go_wp2_with fail
            go_round
            case rel => exact ⟨k + 1, by omega, by go_num, by rw [HCT.out, if_pos hy]; go_num⟩
            case measure => simp [intOf]; omega
          · go_wp2_with fail
            go_round
            case rel => exact ⟨k + 1, by omega, by go_num, by rw [HCT.out, if_neg hy]; go_num⟩
            case measure => simp [intOf]; omega
        · have hkk : k = A.length := by omega
          subst hkk
          clear hk2 hkA
          rw [List.take_length] at hcl ⊢
          have hcn := HR.out.1.count (now := now) hn1
          rw [hcn] at hcl ⊢
          clear hcn
          have hfv := HR.out.1.valid hn1 hn0 hn3 (by omega) h2 h3
          have hKl : K.length ≤ 100000 := by have := HR.out.1.few; omega
          have hput := HR.out.1.put (now := now) hn1 hn0
          have HP := Lib.hid hput
          have HF := Lib.hid hfv
          clear hput hfv
          generalize hN : (near K now maxT).length = N at hcl ⊢
          have HN := Lib.hid hN
          clear hN
          by_cases hz : maxR = 0
          · subst hz
            have t1 : decide ((0 : Int) ≤ (N : Int)) = true := by simp
            have t2 : ((-1 : Int) == now) = false := by simp; omega
            go_wp2_with fail
            refine (Next_zero hsK hKl HF.out).mono ?_
            rintro e w1 ⟨rfl, hb1⟩
            have hB1 := keep_below hbw hbw.size hb1
            go_wp2_with fail
            refine (Add_give (hsK.keep hb1) hKl HF.out (by omega) (by rw [HN.out]; omega)).mono ?_
            rintro e w2 ⟨v2, rfl, hs2, hb2⟩
            have hB2 := keep_below hB1 hB1.size hb2
            clear hb1 hb2 hB1 hs2
            go_wp2_with (go_at_call 10; refine (wakes_any _).mono ?_; rintro e w3 ⟨rfl, hb3⟩)
            go_ret
            exact ⟨rfl, keep_below hB2 hB2.size hb3⟩
          · by_cases hf : (N : Int) < maxR
            · have t0 : (maxR == 0) = false := by simp; omega
              have t1 : decide (maxR ≤ (N : Int)) = false := by simp; omega
              have t2 : decide (0 < maxR) = true := by simp; omega
              have t3 : decide (now < now) = false := by simp
              go_wp2_with fail
              refine (Next_few hsK hKl HF.out (by omega) (by rw [HN.out]; exact hf)).mono ?_
              rintro e w1 ⟨rfl, hb1⟩
              have hB1 := keep_below hbw hbw.size hb1
              go_wp2_with fail
              refine (Add_own (hsK.keep hb1) hKl HF.out (by rw [HN.out]; exact hf)).mono ?_
              rintro e w2 ⟨v2, rfl, hs2, hb2⟩
              have hB2 := keep_below hB1 hB1.size hb2
              have hown2 := own_keep (own_keep hown hb1) hb2
              have hb1sz := hb1.size
              clear hb1 hb2 hB1
              go_wp2_with (at_builtin; refine wpList_append_own _ rfl (.tmp 165) (.tmp 167) 22 rfl w.heap.size 3 i0 (.int .i64 0) 1 8 Try.underlying22 hi hz0 hz1 hz2 rfl (by decide) _ _ _ rfl (hown2.alloc _) ⟨w2.heap.size, 0, none⟩ 1 1 [.int .i64 now] rfl rfl (one_new _ _ _) (by simp [Value.oneCell']) (by unfold maxLen; omega) (by omega) ?_ ?_)
              · have := hB2.size
                simp
                omega
              · intro v' w3 hown3 hgrow hnn
                obtain ⟨g3, c3, hv3, _⟩ := own_facts hown3 (by omega)
                rw [hv3] at hown3 ⊢
                have hB3 : Below w.heap.size w w3 := (hB2.alloc (by have := hB2.size; omega) _).grown hgrow (by have := hB2.size; simp; omega) (own_base hown2)
                have hs3 := own_apart (own_keep hs2 (Below.alloc (Below.refl _ _) (Nat.le_refl _) _)) hgrow (own_lt hown hb1sz)
                have hs4 := SlI_own (xs := near K now maxT ++ [now]) hs3 (by simp)
                have hown5 : w3.ownsRow w.heap.size 3 1 (.slice (some ⟨g3, 0, none⟩) (A.length + 1) c3) (A.length + 1) ((A ++ [now]).map (Value.int .i64)) := by rw [List.map_append]; exact hown3
                have hrel : Hid (Run (A ++ [now]) (near K now maxT ++ [now]) now maxT ∧ ∀ a ∈ A ++ [now], 0 ≤ a ∧ a ≤ now) := by
                  refine ⟨HP.out, fun a ha => ?_⟩
                  rcases List.mem_append.1 ha with ha | ha
                  · have := HR.out.2 a ha; omega
                  · simp at ha; omega
                clear hown3 hgrow hs3 hs2 hown2 hown
                go_wp2_with fail
                go_roundw
                case rel =>
                  have el : (A ++ [now]).length = A.length + 1 := by simp
                  refine ⟨A ++ [now], near K now maxT ++ [now], now, some ⟨g3, 0, none⟩, c3, by omega, by rw [el]; go_num, rfl, by rw [el], hn0, by rw [el]; omega, by rw [el]; exact hown5, hs4, hB3, hrel⟩
                case measure => simp [intOf]; omega
            · obtain ⟨r, rfl⟩ : ∃ r : Nat, maxR = r := ⟨maxR.toNat, by omega⟩
              have hnx := HR.out.1.next (now := now) (r := r) (by omega) (by rw [HN.out]; omega)
              have hkl : (near K now maxT).length ≤ K.length := near_len _ _ _
              obtain ⟨⟨x0, x1, x2⟩, x3, x4⟩ := hnx
              have hN1 := Next_many (w := wr) r hsK hKl HF.out (by omega) (by rw [HN.out]; omega)
              generalize K.getD (K.length - r) 0 = x at x0 x1 x2 x3 x4 hN1
              have HN1 := hN1
              clear hN1
              have t0 : ((r : Int) == 0) = false := by simp; omega
              have t1 : decide ((r : Int) ≤ (N : Int)) = true := by simp; omega
              have t2 : (x + maxT + 1 == now) = false := by simp; omega
              have t3 : decide (0 < (r : Int)) = true := by simp; omega
              have t4 : decide (x + maxT + 1 < now) = false := by simp; omega
              have t5 : decide (0 < x + maxT + 1) = true := by simp; omega
              go_wp2_with fail
              refine HN1.mono ?_
              rintro e w1 ⟨rfl, hb1⟩
              clear HN1
              have hB1 := keep_below hbw hbw.size hb1
              go_wp2_with fail
              refine (Add_give (hsK.keep hb1) hKl HF.out (by omega) (by rw [HN.out]; omega)).mono ?_
              rintro e w2 ⟨v2, rfl, hs2, hb2⟩
              have hB2 := keep_below hB1 hB1.size hb2
              have hsK2 := (hsK.keep hb1).keep hb2
              clear hb1 hb2 hB1 hs2
              go_wp2_with fail
              have hr1 := HR.out.1
              refine (Add_give hsK2 hKl (hr1.valid (by omega) (by omega) (by omega) (by omega) h2 h3) (by omega) (by omega)).mono ?_
              rintro e w3 ⟨v3, rfl, hs3, hb3⟩
              have hB3 := keep_below hB2 hB2.size hb3
              have hsK3 := hsK2.keep hb3
              clear hb3 hB2 hs3 hsK2
              go_wp2_with fail
              refine (Add_put hsK3 hKl (hr1.valid (by omega) (by omega) (by omega) (by omega) h2 h3) (by omega)).mono ?_
              rintro e w4 ⟨v4, rfl, hs4, hb4⟩
              have hB4 := keep_below hB3 hB3.size hb4
              clear hb4 hB3 hs4 hsK3
              go_wp2_with (go_at_call 10; refine (wakes_any _).mono ?_; rintro e w5 ⟨rfl, hb5⟩)
              go_ret
              exact ⟨rfl, keep_below hB4 hB4.size hb5⟩
    · go_wp2_with (go_at_call 10; refine (wakes_any _).mono ?_; rintro e w1 ⟨rfl, hb1⟩)
      go_ret
      exact ⟨rfl, keep_below hbw hbw.size hb1⟩
theorem first_row (a0 : Option Addr) (len0 cap0 : Nat) (z0 : List Int) (a1 a2 : Int) (w : World)
    (h : (a0 = none ∧ len0 = 0 ∧ cap0 = 0) ∨ ∃ x, a0 = some x ∧ len0 ≤ cap0 ∧ cap0 ≤ maxLen ∧ z0.length = cap0 ∧ (∀ i, i < z0.length → w.cell? (x.add i) = some (.int .i64 (z0.getD i 0))))
    (h1 : -9223372036854775808 ≤ a1 ∧ a1 ≤ 9223372036854775807) :
    Calls Try.prog 4 #[.slice a0 len0 cap0, .int .i64 a1, .int .i64 a2] w fun e w' => e = .returned (.bool true) ∧ Below w.heap.size w w' := by
  have hs := Wl.slI_row h
  by_cases hb : 200 < (z0.take len0).length ∨ a1 < 0 ∨ a2 < 0 ∨ 1073741824 < a2
  · exact first_out w _ _ a1 a2 hs hb
  · obtain ⟨ao, cap, e1, e2, e3, e4⟩ := hs
    rw [e1]
    rcases e4 with ⟨e5, _⟩ | ⟨b, off, rfl, e6, e7, e8⟩
    · rw [e5]
      exact first_empty w ao cap a1 a2 (by omega) (by omega) (by omega)
    · exact first_any w b off cap _ a1 a2 (by omega) (by omega) (by omega) (by omega) h1.2 e6 e8 (by rcases Nat.eq_zero_or_pos (z0.take len0).length with h | h; exact absurd (List.eq_nil_of_length_eq_zero h) e7; exact h)
end Go.Proofs.Ytjjlfaknebbhfaa.Wq
