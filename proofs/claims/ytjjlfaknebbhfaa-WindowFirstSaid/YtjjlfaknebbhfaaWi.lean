/- window.Add, Found and Next, by found's contract. Conditions: at most 100000 events, the row lies in old memory. -/
import Derived.Test.YtjjlfaknebbhfaaWh
namespace Go.Proofs.Ytjjlfaknebbhfaa
open Go.ChangeShapes Go.WideShapes Go.ChangeAt Go.RowKit
set_option linter.unusedVariables false
def near (xs : List Int) (now maxT : Int) : List Int := xs.dropWhile fun x => !decide (now - x ≤ maxT)
theorem near_len (xs : List Int) (now maxT : Int) : (near xs now maxT).length ≤ xs.length := by
  unfold near
  have := congrArg List.length (List.takeWhile_append_dropWhile (p := fun x => !decide (now - x ≤ maxT)) (l := xs))
  rw [List.length_append] at this
  omega
theorem found_no {w : World} {v : Value} {xs : List Int} {now maxT : Int} (h : SlI w v xs) (hm : xs.length ≤ 100000) (hf : fvalid xs now maxT = false) :
    Calls Try.prog 25 #[v, .int .i64 now, .int .i64 maxT] w fun e w' => e = .returned (.tuple #[.slice none 0 0, .int .i64 2]) ∧ Below w.heap.size w w' :=
  (found_sl w v xs now maxT h hm).mono fun e w' hp => hp.1 hf
theorem found_ok {w : World} {v : Value} {xs ns : List Int} {now maxT : Int} (h : SlI w v xs) (hm : xs.length ≤ 100000) (hf : fvalid xs now maxT = true) (hn : Hid (ns = near xs now maxT)) :
    Calls Try.prog 25 #[v, .int .i64 now, .int .i64 maxT] w fun e w' => ∃ ao, e = .returned (.tuple #[.slice ao ns.length ns.length, .int .i64 0]) ∧ SlI w' (.slice ao ns.length ns.length) ns ∧ Below w.heap.size w w' :=
  (found_sl w v xs now maxT h hm).mono fun e w' hp => by
    obtain rfl := hn.out
    exact hp.2 hf
/-- what Found tells -/
theorem Found_no {w : World} {v : Value} {xs : List Int} {now maxT : Int} (h : SlI w v xs) (hm : xs.length ≤ 100000) (hf : fvalid xs now maxT = false) :
    Calls Try.prog 12 #[v, .int .i64 now, .int .i64 maxT] w fun e w' => e = .returned (.tuple #[.int .i64 0, .int .i64 2]) ∧ Below w.heap.size w w' := by
  have hsl := h
  obtain ⟨ao, cap, rfl, h2, h3, h4⟩ := h
  go_enter Try.func12, Try.ntmps12
  go_wp2_with (go_at_call 25; refine (found_no hsl hm hf).mono ?_; rintro e w1 ⟨rfl, hb1⟩)
  go_ret2
  exact ⟨rfl, hb1⟩
theorem Found_ok {w : World} {v : Value} {xs : List Int} {now maxT : Int} (h : SlI w v xs) (hm : xs.length ≤ 100000) (hf : fvalid xs now maxT = true) :
    Calls Try.prog 12 #[v, .int .i64 now, .int .i64 maxT] w fun e w' => e = .returned (.tuple #[.int .i64 (near xs now maxT).length, .int .i64 0]) ∧ Below w.heap.size w w' := by
  have hsl := h
  obtain ⟨ao, cap, rfl, h2, h3, h4⟩ := h
  obtain ⟨ns, hns⟩ : ∃ ns, ns = near xs now maxT := ⟨_, rfl⟩
  rw [← hns]
  have HN := Lib.hid hns
  clear hns
  go_enter Try.func12, Try.ntmps12
  go_wp2_with (go_at_call 25; refine (found_ok hsl hm hf HN).mono ?_; rintro e w1 ⟨ao, rfl, hs1, hb1⟩)
  go_ret2
  exact ⟨rfl, hb1⟩
def AddPost (w : World) (give : Bool) (errno : Int) (out : List Int) (e : Ending) (w' : World) : Prop :=
  ∃ v, e = .returned (.tuple #[v, .bool give, .int .i64 errno]) ∧ SlI w' v out ∧ Below w.heap.size w w'
theorem SlI_nil (w : World) : SlI w (.slice none 0 0) [] := ⟨none, 0, rfl, Nat.le_refl _, by omega, .inl ⟨rfl, fun _ => rfl⟩⟩
theorem Add_no {w : World} {v : Value} {xs : List Int} {now maxR maxT : Int} (h : SlI w v xs) (hm : xs.length ≤ 100000) (hf : fvalid xs now maxT = false) :
    Calls Try.prog 11 #[v, .int .i64 now, .int .i64 maxR, .int .i64 maxT] w (AddPost w false 2 []) := by
  have hsl := h
  obtain ⟨ao, cap, rfl, h2, h3, h4⟩ := h
  go_enter Try.func11, Try.ntmps11
  go_wp2_with (go_at_call 25; refine (found_no hsl hm hf).mono ?_; rintro e w1 ⟨rfl, hb1⟩)
  go_ret3
  exact ⟨_, rfl, SlI_nil _, hb1⟩
theorem Add_neg {w : World} {v : Value} {xs : List Int} {now maxR maxT : Int} (h : SlI w v xs) (hm : xs.length ≤ 100000) (hf : fvalid xs now maxT = true) (hr : maxR < 0) :
    Calls Try.prog 11 #[v, .int .i64 now, .int .i64 maxR, .int .i64 maxT] w (AddPost w false 2 []) := by
  have hsl := h
  obtain ⟨ao, cap, rfl, h2, h3, h4⟩ := h
  obtain ⟨ns, hns⟩ : ∃ ns, ns = near xs now maxT := ⟨_, rfl⟩
  have HN := Lib.hid hns
  clear hns
  go_enter Try.func11, Try.ntmps11
  go_wp2_with (go_at_call 25; refine (found_ok hsl hm hf HN).mono ?_; rintro e w1 ⟨ao, rfl, hs1, hb1⟩)
  go_ret3
  exact ⟨_, rfl, SlI_nil _, hb1⟩
theorem SlI_own {w : World} {base : Nat} {v : Value} {xs : List Int} {n : Nat} (h : w.ownsRow base 3 1 v n (xs.map (Value.int .i64))) (hn : n = xs.length) : SlI w v xs := by
  subst hn
  rcases Nat.eq_zero_or_pos xs.length with h0 | h0
  · obtain rfl := List.eq_nil_of_length_eq_zero h0
    obtain ⟨hl, h2 | ⟨g, cap, cur, hv, hg, hh, h3, h4, h5, h6⟩⟩ := h
    · obtain ⟨rfl, _⟩ := h2
      exact SlI_nil w
    · subst hv
      exact ⟨_, cap, rfl, h3, by unfold maxLen at h4; omega, .inl ⟨rfl, fun h => by cases h⟩⟩
  · obtain ⟨g, cap, hv, q1, q2, q3, q4, q5⟩ := own_facts h h0
    subst hv
    refine ⟨_, cap, rfl, q3, q4, .inr ⟨g, 0, rfl, q2, by intro h; subst h; simp at h0, fun i hi => ?_⟩⟩
    have := q5 i (.int .i64 (xs.getD i 0)) (by simp [List.getD_eq_getElem?_getD, List.getElem?_eq_getElem hi])
    simpa using this
theorem SlI.cells' {w : World} {ao : Option Addr} {n cap : Nat} {xs : List Int} (h : SlI w (.slice ao n cap) xs) : ∀ b, ao = some b → ∀ j u, (xs.map (Value.int .i64))[j]? = some u → w.cell? (b.add j) = some u := by
  rintro b rfl
  obtain ⟨ao, cap', h1, h2, h3, h4⟩ := h
  injection h1 with e1 e2 e3
  subst e2
  subst e3
  exact SlI.cells ⟨ao, cap, by rw [e1], h2, h3, h4⟩ b rfl
theorem Add_put {w : World} {v : Value} {xs : List Int} {now maxR maxT : Int} (h : SlI w v xs) (hm : xs.length ≤ 100000) (hf : fvalid xs now maxT = true) (hr : ((near xs now maxT).length : Int) < maxR) :
    Calls Try.prog 11 #[v, .int .i64 now, .int .i64 maxR, .int .i64 maxT] w (AddPost w false 0 (near xs now maxT ++ [now])) := by
  obtain ⟨i0, hi, hz0, hz1, hz2⟩ := info_parts Try_info3
  have hsl := h
  obtain ⟨ao, cap, rfl, h2, h3, h4⟩ := h
  have hnl := near_len xs now maxT
  obtain ⟨ns, hns⟩ : ∃ ns, ns = near xs now maxT := ⟨_, rfl⟩
  rw [← hns] at hr hnl ⊢
  have HN := Lib.hid hns
  clear hns
  have hr0 : (0 : Int) ≤ maxR := by omega
  go_enter Try.func11, Try.ntmps11
  go_wp2_with (first | (go_at_call 25; refine (found_ok hsl hm hf HN).mono ?_; rintro e w1 ⟨ao1, rfl, hs1, hb1⟩) | (at_builtin; refine wpList_append_grows _ rfl (.tmp 33) (.tmp 35) 22 rfl 3 i0 (.int .i64 0) 1 8 Try.underlying22 hi hz0 hz1 hz2 rfl (by decide) ao1 ns.length ns.length (ns.map (Value.int .i64)) rfl ?_ (by simp) (hs1.keep (Below.alloc (Below.refl _ _) (Nat.le_refl _) _)).cells' ⟨_, 0, none⟩ 1 1 [.int .i64 now] rfl rfl (one_new _ _ _) (by simp [Value.oneCell']) (by omega) (by unfold maxLen; omega) (by omega) ?_))
  · intro h0
    obtain ⟨ao2, c2, e1, _, _, e4⟩ := hs1
    injection e1 with e5 e6 e7
    rcases e4 with ⟨e8, e9⟩ | ⟨_, _, e8, _⟩
    · rw [e8]; exact ⟨rfl, rfl⟩
    · rw [h0] at e5; rw [← e5] at e8; cases e8
  · intro v' w2 hown hgrow
    have hs2 := SlI_own (xs := ns ++ [now]) (by rw [List.map_append]; exact hown) (by simp)
    have hb2 := grown_below hgrow
    have hbA : Below w.heap.size w w2 := by
      have := hb1.size
      exact keep_below (hb1.alloc (by omega) _) (by simp; omega) hb2
    clear hown hgrow hb2
    go_wp2
    go_ret3
    exact ⟨_, rfl, hs2, hbA⟩
theorem wpList_append_nothing {P : Program} {w : World} {ops : Array Oper} {rest : List Oper} {o : Oper} {a : Act} {Q : Exit → Act → World → Prop}
    (hg : o.guard = none) (s x : Operand) (t : TypeId) (hop : o.op = Op.call { callee := Callee.builtin Builtin.append, args := #[s, x], argTypes := #[t, t] })
    (e : TypeId) (i : TypeInfo) (h1 : P.underlying t = some (.slice e)) (h2 : P.info? e = some i)
    (ao : Option Addr) (n c : Nat) (hs : a.eval s = .slice ao n c) (hnc : n ≤ c) (bo : Option Addr) (d : Nat) (hx : a.eval x = .slice bo 0 d)
    (hK : wpList P ops Q rest (a.put o.dst (.slice ao n c)) w) : wpList P ops Q (o :: rest) a w := by
  refine wpList_plain hg fun K hK' => ?_
  have hrun : (Builtin.append_ #[t, t] o.type #[.slice ao n c, .slice bo 0 d]).run P w = .ok (.slice ao n c) w := by
    cases bo with
    | none =>
      cases ao <;> simp [Builtin.append_, run_underlying h1, sizeOf, typeInfo, h2, Builtin.lenOf, go_sem, hnc, Builtin.firstCells]
    | some b =>
      have hfc := run_firstCells_some (P := P) w i.size 0 b 0 d [] (by simp) (by simp)
      cases ao <;> simp [Builtin.append_, run_underlying h1, sizeOf, typeInfo, h2, Builtin.lenOf, go_sem, hnc]
  unfold Oper.wp
  simp [execOp, hop, resolve, invoke, builtin, hs, hx, hrun, Result.andThen]
  exact hK' _ _ hK
theorem Add_give {w : World} {v : Value} {xs : List Int} {now maxR maxT : Int} (h : SlI w v xs) (hm : xs.length ≤ 100000) (hf : fvalid xs now maxT = true) (hr0 : (0 : Int) ≤ maxR) (hr : maxR ≤ ((near xs now maxT).length : Int)) :
    Calls Try.prog 11 #[v, .int .i64 now, .int .i64 maxR, .int .i64 maxT] w (AddPost w true 0 xs) := by
  obtain ⟨i0, hi, hz0, hz1, hz2⟩ := info_parts Try_info3
  have hsl := h
  obtain ⟨ao, cap, rfl, h2, h3, h4⟩ := h
  have hnl := near_len xs now maxT
  obtain ⟨ns, hns⟩ : ∃ ns, ns = near xs now maxT := ⟨_, rfl⟩
  rw [← hns] at hr hnl
  have HN := Lib.hid hns
  clear hns
  rcases h4 with ⟨rfl, _⟩ | ⟨b, off, rfl, e2, e3, e4⟩
  · show Calls Try.prog 11 #[.slice ao 0 cap, .int .i64 now, .int .i64 maxR, .int .i64 maxT] w (AddPost w true 0 [])
    go_enter Try.func11, Try.ntmps11
    go_wp2_with (first | (go_at_call 25; refine (found_ok hsl hm hf HN).mono ?_; rintro e w1 ⟨ao1, rfl, hs1, hb1⟩) | (at_builtin; refine wpList_append_nothing rfl (.const (.slice none 0 0)) (.tmp 31) 22 rfl 3 i0 Try.underlying22 hi none 0 0 rfl (Nat.le_refl _) ao cap rfl ?_))
    go_ret3
    exact ⟨_, rfl, SlI_nil _, hb1⟩
  · have hne : 0 < xs.length := by cases xs; exact absurd rfl e3; simp
    go_enter Try.func11, Try.ntmps11
    go_wp2_with (first | (go_at_call 25; refine (found_ok hsl hm hf HN).mono ?_; rintro e w1 ⟨ao1, rfl, hs1, hb1⟩) | (at_builtin; refine wpList_append_grows _ rfl (.const (.slice none 0 0)) (.tmp 31) 22 rfl 3 i0 (.int .i64 0) 1 8 Try.underlying22 hi hz0 hz1 hz2 rfl (by decide) none 0 0 [] rfl (fun _ => ⟨rfl, rfl⟩) rfl (fun _ h => by cases h) ⟨b, off, none⟩ xs.length cap (xs.map (Value.int .i64)) rfl (by simp) ((hsl.keep hb1).cells' _ rfl) (by simp [Value.oneCell']) (by omega) (by unfold maxLen; omega) (by omega) ?_; intro v' w2 hown hgrow))
    have hs2 := SlI_own (xs := xs) (by simpa using hown) (by simp)
    have hb2 := grown_below hgrow
    have hbA : Below w.heap.size w w2 := keep_below hb1 hb1.size hb2
    clear hown hgrow hb2
    go_wp2
    go_ret3
    exact ⟨_, rfl, hs2, hbA⟩

def NextPost (w : World) (n : Int) (errno : Int) (e : Ending) (w' : World) : Prop := e = .returned (.tuple #[.int .i64 n, .int .i64 errno]) ∧ Below w.heap.size w w'
theorem Next_no {w : World} {v : Value} {xs : List Int} {now maxR maxT : Int} (h : SlI w v xs) (hm : xs.length ≤ 100000) (hf : fvalid xs now maxT = false) :
    Calls Try.prog 13 #[v, .int .i64 now, .int .i64 maxR, .int .i64 maxT] w (NextPost w 0 2) := by
  have hsl := h
  obtain ⟨ao, cap, rfl, h2, h3, h4⟩ := h
  go_enter Try.func13, Try.ntmps13
  go_wp2_with (go_at_call 25; refine (found_no hsl hm hf).mono ?_; rintro e w1 ⟨rfl, hb1⟩)
  go_ret2
  exact ⟨rfl, hb1⟩
theorem Next_zero {w : World} {v : Value} {xs : List Int} {now maxT : Int} (h : SlI w v xs) (hm : xs.length ≤ 100000) (hf : fvalid xs now maxT = true) :
    Calls Try.prog 13 #[v, .int .i64 now, .int .i64 0, .int .i64 maxT] w (NextPost w (-1) 0) := by
  have hsl := h
  obtain ⟨ao, cap, rfl, h2, h3, h4⟩ := h
  obtain ⟨ns, hns⟩ : ∃ ns, ns = near xs now maxT := ⟨_, rfl⟩
  have HN := Lib.hid hns
  clear hns
  go_enter Try.func13, Try.ntmps13
  go_wp2_with (go_at_call 25; refine (found_ok hsl hm hf HN).mono ?_; rintro e w1 ⟨ao1, rfl, hs1, hb1⟩)
  go_ret2
  exact ⟨rfl, hb1⟩
theorem Next_few {w : World} {v : Value} {xs : List Int} {now maxR maxT : Int} (h : SlI w v xs) (hm : xs.length ≤ 100000) (hf : fvalid xs now maxT = true) (h0 : 0 < maxR) (hr : ((near xs now maxT).length : Int) < maxR) :
    Calls Try.prog 13 #[v, .int .i64 now, .int .i64 maxR, .int .i64 maxT] w (NextPost w now 0) := by
  have hsl := h
  obtain ⟨ao, cap, rfl, h2, h3, h4⟩ := h
  obtain ⟨ns, hns⟩ : ∃ ns, ns = near xs now maxT := ⟨_, rfl⟩
  rw [← hns] at hr
  have HN := Lib.hid hns
  clear hns
  have hz : (maxR == 0) = false := by simp; omega
  have hr0 : (0 : Int) ≤ maxR := by omega
  go_enter Try.func13, Try.ntmps13
  go_wp2_with (go_at_call 25; refine (found_ok hsl hm hf HN).mono ?_; rintro e w1 ⟨ao1, rfl, hs1, hb1⟩)
  go_ret2
  exact ⟨rfl, hb1⟩
theorem Next_many {w : World} {v : Value} {xs : List Int} {now maxT : Int} (r : Nat) (h : SlI w v xs) (hm : xs.length ≤ 100000) (hf : fvalid xs now maxT = true) (h0 : 0 < r) (hr : r ≤ (near xs now maxT).length) :
    Calls Try.prog 13 #[v, .int .i64 now, .int .i64 r, .int .i64 maxT] w (NextPost w (xs.getD (xs.length - r) 0 + maxT + 1) 0) := by
  have hsl := h
  have hnl := near_len xs now maxT
  obtain ⟨ao, cap, rfl, h2, h3, h4⟩ := h
  obtain ⟨ns, hns⟩ : ∃ ns, ns = near xs now maxT := ⟨_, rfl⟩
  rw [← hns] at hr hnl
  have HN := Lib.hid hns
  clear hns
  have hz : ((r : Int) == 0) = false := by simp; omega
  have hr0 : (0 : Int) ≤ (r : Int) := by omega
  rcases h4 with ⟨rfl, _⟩ | ⟨b, off, rfl, e2, e3, e4⟩
  · have : ([] : List Int).length = 0 := rfl
    omega
  have hbd := fvalid_bd xs now maxT (by omega) hf
  have hx := hsl.at (xs.length - r) (by omega)
  have hb1 := hbd.1 (xs.length - r) (by omega)
  have hbt := hbd.2.2
  clear hbd
  generalize xs.getD (xs.length - r) 0 = x at hx hb1 ⊢
  have g1 : IntKind.i64.wrap ((xs.length : Int) - (r : Int)) = (xs.length : Int) - r := IntWalk.i64_in _ (by omega)
  have g2 : ((xs.length : Int) - (r : Int)).toNat = xs.length - r := by omega
  have g3 : (0 : Int) ≤ (xs.length : Int) - r := by omega
  have g4 : (xs.length : Int) - r < (xs.length : Int) := by omega
  have g5 : (r : Int) ≤ (xs.length : Int) := by omega
  have g6 : (0 : Int) < (r : Int) := by omega
  have g7 : (r : Int) ≤ (ns.length : Int) := by omega
  go_enter Try.func13, Try.ntmps13
  go_wp2_with (go_at_call 25; refine (found_ok hsl hm hf HN).mono ?_; rintro e w1 ⟨ao1, rfl, hs1, hb1⟩; have hx1 := (hb1.cell (p := ⟨b, off + (xs.length - r), none⟩) e2).trans hx)
  go_ret2
  exact ⟨rfl, by assumption⟩
end Go.Proofs.Ytjjlfaknebbhfaa
