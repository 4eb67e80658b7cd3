/- window.found at a row that is not empty. Conditions: at most 100000 events, the row lies in old memory. -/
import Derived.Test.YtjjlfaknebbhfaaWf
namespace Go.Proofs.Ytjjlfaknebbhfaa
open Go.ChangeShapes Go.WideShapes Go.ChangeAt Go.RowKit
set_option linter.unusedVariables false
def FS (w : World) (b off cap : Nat) (xs : List Int) (now maxT last : Int) (w' : World) : Prop :=
  w'.cell? ⟨w.heap.size, 0, none⟩ = some (.slice (some ⟨b, off, none⟩) xs.length cap) ∧ w'.cell? ⟨w.heap.size + 1, 0, none⟩ = some (.int .i64 now) ∧ w'.cell? ⟨w.heap.size + 1 + 1, 0, none⟩ = some (.int .i64 maxT) ∧ w'.cell? ⟨b, off + (xs.length - 1), none⟩ = some (.int .i64 last) ∧ SlI w' (.slice (some ⟨b, off, none⟩) xs.length cap) xs ∧ Below w.heap.size w w'
theorem FS.keep {w : World} {b off cap : Nat} {xs : List Int} {now maxT last : Int} {W W' : World} (h : FS w b off cap xs now maxT last W) (hb : Below W.heap.size W W') : FS w b off cap xs now maxT last W' := by
  obtain ⟨d0, d1, d2, d3, d4, d5⟩ := h
  exact ⟨keep_cell d0 hb, keep_cell d1 hb, keep_cell d2 hb, keep_cell d3 hb, d4.keep hb, keep_below d5 d5.size hb⟩
theorem fin_1 (xs : List Int) (now maxT : Int) (h : wmay ((xs ++ [now]).drop 1) = false) (hne : 0 < xs.length) : Value.bool true = .bool (!fvalid xs now maxT) := by
  have e : min xs.length 1 = 1 := by omega
  simp only [fvalid, e, h, Bool.false_and, Bool.not_false]
theorem fin_2 (xs : List Int) (now maxT : Int) (h : wmay xs = false) : Value.bool true = .bool (!fvalid xs now maxT) := by simp [fvalid, h]
theorem fin_3 (xs : List Int) (now maxT : Int) (h : decide (maxT < 0) = true) : Value.bool true = .bool (!fvalid xs now maxT) := by
  have : decide (0 ≤ maxT) = false := by simp at *; omega
  simp [fvalid, this]
theorem fin_4 (xs : List Int) (now maxT : Int) (h : decide (1073741824 < maxT) = true) : Value.bool true = .bool (!fvalid xs now maxT) := by
  have : decide (maxT ≤ 1073741824) = false := by simp at *; omega
  simp [fvalid, this]
theorem fin_5 (xs : List Int) (now maxT last : Int) (hl : xs.getD (xs.length - 1) 0 = last) (hne : 0 < xs.length) (h1 : wmay ((xs ++ [now]).drop 1) = true) (h2 : wmay xs = true) (h3 : decide (maxT < 0) = false) (h4 : decide (1073741824 < maxT) = false) :
    Value.bool (decide (now < last)) = .bool (!fvalid xs now maxT) := by
  have e : min xs.length 1 = 1 := by omega
  have e3 : decide (0 ≤ maxT) = true := by simp at *; omega
  have e4 : decide (maxT ≤ 1073741824) = true := by simp at *; omega
  have e5 : xs ≠ [] := by intro h; subst h; simp at hne
  have e6 : lastOk xs now = decide (last ≤ now) := by unfold lastOk; rw [hl]; simp [e5]
  rw [fvalid, e, h1, h2, e3, e4, e6]
  by_cases h : now < last
  · simp [h]
  · simp [h]; omega
def FoundGood (w : World) (xs : List Int) (now maxT : Int) (e : Ending) (w' : World) : Prop :=
  ∃ ao, e = .returned (.tuple #[.slice ao (xs.dropWhile fun x => !decide (now - x ≤ maxT)).length (xs.dropWhile fun x => !decide (now - x ≤ maxT)).length, .int .i64 0]) ∧
    SlI w' (.slice ao (xs.dropWhile fun x => !decide (now - x ≤ maxT)).length (xs.dropWhile fun x => !decide (now - x ≤ maxT)).length) (xs.dropWhile fun x => !decide (now - x ≤ maxT)) ∧ Below w.heap.size w w'
def FoundPost (w : World) (xs : List Int) (now maxT : Int) (e : Ending) (w' : World) : Prop :=
  (fvalid xs now maxT = false → e = .returned (.tuple #[.slice none 0 0, .int .i64 2]) ∧ Below w.heap.size w w') ∧ (fvalid xs now maxT = true → FoundGood w xs now maxT e w')
theorem FoundPost.bad {w : World} {xs : List Int} {now maxT : Int} {w' : World} (h : fvalid xs now maxT = false) (hb : Below w.heap.size w w') : FoundPost w xs now maxT (.returned (.tuple #[.slice none 0 0, .int .i64 2])) w' :=
  ⟨fun _ => ⟨rfl, hb⟩, fun h' => by rw [h] at h'; cases h'⟩
theorem FoundPost.good {w : World} {xs : List Int} {now maxT : Int} {e : Ending} {w' : World} (h : fvalid xs now maxT = true) (hb : FoundGood w xs now maxT e w') : FoundPost w xs now maxT e w' :=
  ⟨fun h' => (by rw [h] at h'; cases h'), fun _ => hb⟩
theorem mayFrom_bd : ∀ (xs : List Int) (lo : Int), mayFrom lo xs = true → ∀ x ∈ xs, lo ≤ x ∧ x ≤ 1099511627776
  | [], _, _, x, hx => by cases hx
  | t :: r, lo, h, x, hx => by
    simp only [mayFrom, Bool.and_eq_true, decide_eq_true_eq] at h
    rcases List.mem_cons.1 hx with rfl | hx
    · exact h.1
    · have := mayFrom_bd r t h.2 x hx
      omega
theorem wmay_bd {xs : List Int} (h : wmay xs = true) : ∀ x ∈ xs, 0 ≤ x ∧ x ≤ 1099511627776 := by
  simp only [wmay, Bool.and_eq_true] at h
  exact mayFrom_bd xs 0 h.1
theorem fvalid_bd (xs : List Int) (now maxT : Int) (hne : 0 < xs.length) (h : fvalid xs now maxT = true) : (∀ k, k < xs.length → 0 ≤ xs.getD k 0 ∧ xs.getD k 0 ≤ 1099511627776) ∧ (0 ≤ now ∧ now ≤ 1099511627776) ∧ 0 ≤ maxT ∧ maxT ≤ 1073741824 := by
  simp only [fvalid, Bool.and_eq_true, decide_eq_true_eq] at h
  obtain ⟨⟨⟨⟨h1, h2⟩, h3⟩, h4⟩, h5⟩ := h
  have e : min xs.length 1 = 1 := by omega
  rw [e] at h1
  refine ⟨fun k hk => ?_, ?_, h3, h4⟩
  · refine wmay_bd h2 _ ?_
    rw [List.getD_eq_getElem?_getD, List.getElem?_eq_getElem hk]
    simp
  · refine wmay_bd h1 now ?_
    rw [List.drop_append_of_le_length (by omega)]
    simp
theorem dw_drop (xs : List Int) (k : Nat) (h : k < xs.length) (p : Int → Bool) : (xs.drop k).dropWhile p = if p (xs.getD k 0) then (xs.drop (k + 1)).dropWhile p else xs.drop k := by
  have e : xs.getD k 0 = xs[k] := by simp [List.getD_eq_getElem?_getD, List.getElem?_eq_getElem h]
  rw [e]
  conv => lhs; rw [List.drop_eq_getElem_cons h, List.dropWhile_cons]
  by_cases hp : p xs[k] = true
  · rw [if_pos hp, if_pos hp]
  · rw [if_neg hp, if_neg hp, ← List.drop_eq_getElem_cons h]
theorem below_drewN {B : Nat} {a w : World} (h : Below B a w) (n : Nat) : Below B a (w.drewN n) := ⟨h.os, h.tape, h.output, h.size, h.block⟩
theorem SlI.at {w : World} {b off cap : Nat} {xs : List Int} (h : SlI w (.slice (some ⟨b, off, none⟩) xs.length cap) xs) (k : Nat) (hk : k < xs.length) : w.cell? ⟨b, off + k, none⟩ = some (.int .i64 (xs.getD k 0)) := by
  have := SlI.cells h ⟨b, off, none⟩ rfl k (.int .i64 (xs.getD k 0)) (by simp [List.getD_eq_getElem?_getD, List.getElem?_eq_getElem hk])
  rw [Addr.add_lit] at this
  exact this
theorem good_at {w w' : World} {b off cap : Nat} {xs : List Int} {now maxT : Int} {k : Nat} (hk : k < xs.length) (hdw : (xs.dropWhile fun x => !decide (now - x ≤ maxT)) = xs.drop k)
    (hsl : SlI w' (.slice (some ⟨b, off, none⟩) xs.length cap) xs) (hb : Below w.heap.size w w') (m : Nat) :
    FoundGood w xs now maxT (.returned (.tuple #[.slice (some ⟨b, off + k, none⟩) (xs.length - k) (xs.length - k), .int .i64 0])) (w'.drewN m) := by
  have hl : (xs.drop k).length = xs.length - k := List.length_drop
  refine ⟨some ⟨b, off + k, none⟩, by rw [hdw, hl], ?_, below_drewN hb m⟩
  rw [hdw]
  obtain ⟨ao, c, h1, h2, h3, h4⟩ := hsl
  refine ⟨some ⟨b, off + k, none⟩, (xs.drop k).length, rfl, Nat.le_refl _, by injection h1; omega, .inr ?_⟩
  rcases h4 with ⟨rfl, _⟩ | ⟨b', off', e1, e2, e3, e4⟩
  · simp at hk
  · injection h1 with e0 _ _
    have e5 : (⟨b, off, none⟩ : Addr) = ⟨b', off', none⟩ := Option.some.inj (e0.trans e1)
    injection e5 with e6 e7
    subst e6 e7
    refine ⟨b, off + k, rfl, e2, ?_, fun i hi => ?_⟩
    · intro h
      rw [h] at hl
      simp at hl
      omega
    · have := e4 (k + i) (by omega)
      rw [show off + (k + i) = off + k + i from by omega] at this
      rw [show (w'.drewN m).cell? ⟨b, off + k + i, none⟩ = w'.cell? ⟨b, off + k + i, none⟩ from rfl, this]
      simp [List.getD_eq_getElem?_getD]
theorem good_end {w w' : World} {b off cap : Nat} {xs : List Int} {now maxT : Int} (hdw : (xs.dropWhile fun x => !decide (now - x ≤ maxT)) = [])
    (hsl : SlI w' (.slice (some ⟨b, off, none⟩) xs.length cap) xs) (hb : Below w.heap.size w w') :
    FoundGood w xs now maxT (.returned (.tuple #[.slice (some ⟨b, off, none⟩) 0 0, .int .i64 0])) w' := by
  refine ⟨some ⟨b, off, none⟩, by rw [hdw]; rfl, ?_, hb⟩
  rw [hdw]
  exact ⟨_, 0, rfl, Nat.le_refl _, by omega, .inl ⟨rfl, fun _ => rfl⟩⟩
set_option maxRecDepth 100000 in
set_option maxHeartbeats 4000000 in
theorem found_any (w : World) (b off cap : Nat) (xs : List Int) (now maxT : Int) (hm : xs.length ≤ 100000) (hcap : xs.length ≤ cap) (hc3 : cap ≤ 9223372036854775807) (hb : b < w.heap.size) (hne : 0 < xs.length)
    (hc : ∀ i, i < xs.length → w.cell? ⟨b, off + i, none⟩ = some (.int .i64 (xs.getD i 0))) :
    Calls Try.prog 25 #[.slice (some ⟨b, off, none⟩) xs.length cap, .int .i64 now, .int .i64 maxT] w (FoundPost w xs now maxT) := by
  obtain ⟨i0, hi, hz0, hz1, hz2⟩ := info_parts Try_info3
  have hsl : SlI w (.slice (some ⟨b, off, none⟩) xs.length cap) xs := ⟨_, _, rfl, hcap, hc3, .inr ⟨b, off, rfl, hb, (fun h => by subst h; exact absurd hne (by decide)), hc⟩⟩
  have HC := Lib.hid hc
  clear hc
  have hl1 := HC.out (xs.length - 1) (by omega)
  generalize hlast : xs.getD (xs.length - 1) 0 = last at hl1
  have HL := Lib.hid hlast
  clear hlast
  obtain ⟨ys, hys⟩ : ∃ ys, ys = (xs ++ [now]).drop 1 := ⟨_, rfl⟩
  have HY : Hid (ys = (xs ++ [now]).drop 1) := hys
  clear hys
  go_enter Try.func25, Try.ntmps25
  go_wp2_with fail
  have c0 : (((w.alloc (.cells #[.slice (some ⟨b, off, none⟩) xs.length cap] 22)).alloc (.cells #[.int .i64 now] 3)).alloc (.cells #[.int .i64 maxT] 3)).cell? ⟨w.heap.size, 0, none⟩ = some (.slice (some ⟨b, off, none⟩) xs.length cap) := by go_cell
  have c1 : (((w.alloc (.cells #[.slice (some ⟨b, off, none⟩) xs.length cap] 22)).alloc (.cells #[.int .i64 now] 3)).alloc (.cells #[.int .i64 maxT] 3)).cell? ⟨w.heap.size + 1, 0, none⟩ = some (.int .i64 now) := by go_cell
  have c2 : (((w.alloc (.cells #[.slice (some ⟨b, off, none⟩) xs.length cap] 22)).alloc (.cells #[.int .i64 now] 3)).alloc (.cells #[.int .i64 maxT] 3)).cell? ⟨w.heap.size + 1 + 1, 0, none⟩ = some (.int .i64 maxT) := by go_cell
  have hbx : Below w.heap.size w (((w.alloc (.cells #[.slice (some ⟨b, off, none⟩) xs.length cap] 22)).alloc (.cells #[.int .i64 now] 3)).alloc (.cells #[.int .i64 maxT] 3)) := by go_grown
  have c3 : (((w.alloc (.cells #[.slice (some ⟨b, off, none⟩) xs.length cap] 22)).alloc (.cells #[.int .i64 now] 3)).alloc (.cells #[.int .i64 maxT] 3)).cell? ⟨b, off + (xs.length - 1), none⟩ = some (.int .i64 last) := (hbx.cell (by exact hb)).trans hl1
  generalize ((w.alloc (.cells #[.slice (some ⟨b, off, none⟩) xs.length cap] 22)).alloc (.cells #[.int .i64 now] 3)).alloc (.cells #[.int .i64 maxT] 3) = W at *
  have hslW : SlI W (.slice (some ⟨b, off, none⟩) xs.length cap) xs := hsl.keep hbx
  have hbW := hbx.size
  have m1 : min (xs.length : Int) 1 = 1 := by omega
  have g10 : (0 : Int) ≤ (xs.length : Int) - 1 := by omega
  have g11 : (xs.length : Int) - 1 < (xs.length : Int) := by omega
  have g5 : decide (0 < (xs.length : Int)) = true := by simp; omega
  have g7 : IntKind.i64.wrap ((xs.length : Int) - 1) = (xs.length : Int) - 1 := IntWalk.i64_in _ (by omega)
  have g8 : ((xs.length : Int) - 1).toNat = xs.length - 1 := by omega
  have g9 : (1 : Int) ≤ (xs.length : Int) := by omega
  have m3 : (1 : Int) ≤ (xs.length : Int) + 1 := by omega
  have hS0 : FS w b off cap xs now maxT last W.drew := ⟨c0, c1, c2, c3, hslW, hbx.drew⟩
  go_cut [50] (fun s50 wx => s50 = .bool (!fvalid xs now maxT) ∧ FS w b off cap xs now maxT last wx)
  case first =>
    refine region_plan (FS w b off cap xs now maxT last) [(0, 0), (1, 0), (2, 0), (3, 0), (4, 0), (7, 0), (8, 0), (5, 1), (6, 1), (9, 0), (10, 1), (11, 0), (12, 0), (13, 0), (14, 1), (15, 0), (16, 0), (17, 0), (18, 0), (19, 0), (20, 0), (21, 0), (22, 0), (23, 0), (24, 0), (25, 0), (26, 0), (27, 0), (28, 0), (29, 0), (30, 0), (31, 0), (32, 0), (33, 0), (34, 0), (35, 0), (36, 0), (37, 0)] (by kernel_rfl) (by kernel_rfl) (by kernel_rfl) hS0 ?_
    generalize W.drew = W0 at hS0 ⊢
    iterate 7 (first | (refine plan_skip rfl ?_ ?_; (focus (rfl)); (try simp only [Act.put, List.setIfInBounds_toArray, List.set_cons_zero, List.set_cons_succ])) | (refine plan_take (v := ?_) rfl ?_ (fun w hSw => ?_) ?_; rotate_left; (focus (rfl)); (focus (unfold FS at hSw; (go_simp <;> with_reducible rfl))); (try simp only [Act.put, List.setIfInBounds_toArray, List.set_cons_zero, List.set_cons_succ])))
    refine plan_run rfl ?_ (fun K hK => ?_)
    focus (rfl)
    go_simp
    have hb1 : Below W0.heap.size W0 (W0.alloc (.cells #[.int .i64 now] 3)) := Below.alloc (Below.refl _ _) (Nat.le_refl _) _
    have hn1 := one_new W0 (.int .i64 now) 3
    have hS1 := hS0.keep hb1
    refine hK.out _ _ hS1 ?_
    clear hK K
    (try simp only [Act.put, List.setIfInBounds_toArray, List.set_cons_zero, List.set_cons_succ])
    clear hS0
    generalize hW1 : W0.alloc (.cells #[.int .i64 now] 3) = W1 at hb1 hS1 hn1 ⊢
    clear hW1
    refine plan_run rfl ?_ (fun K hK => ?_)
    focus (rfl)
    refine op_of_step (ops := #[]) rfl (step_append_grows (ops := #[]) rfl (.tmp 16) (.tmp 18) 22 rfl 3 i0 (.int .i64 0) 1 8 Try.underlying22 hi hz0 hz1 hz2 rfl (by decide) (some ⟨b, off, none⟩) xs.length xs.length (xs.map (Value.int .i64)) rfl (fun h => by cases h) (by simp) ?_ ⟨W0.heap.size, 0, none⟩ 1 1 [.int .i64 now] rfl rfl ?_ (by simp [Value.oneCell']) (by omega) (by unfold maxLen; omega) (by omega) ?_)
    · exact SlI.cells hS1.2.2.2.2.1
    · exact hn1
    intro v' W2 hown hgrow
    obtain ⟨g, c', hvv, q1, q2, q3, q4, q5⟩ := own_facts hown (by omega)
    have hb2 := grown_below hgrow
    clear hown hgrow hn1 hb1
    rw [hvv]
    clear hvv
    have q6 : ¬ (c' = 1) := (by omega)
    have hsh := SlI_shift xs now g c' W2 q2 q3 q4 q5 (by omega) ys HY
    have hS2 := hS1.keep hb2
    refine hK.out _ _ hS2 ?_
    clear hK K hS1 hb2 q5
    (try simp only [Act.put, List.setIfInBounds_toArray, List.set_cons_zero, List.set_cons_succ])
    iterate 1 (first | (refine plan_skip rfl ?_ ?_; (focus (rfl)); (try simp only [Act.put, List.setIfInBounds_toArray, List.set_cons_zero, List.set_cons_succ])) | (refine plan_take (v := ?_) rfl ?_ (fun w hSw => ?_) ?_; rotate_left; (focus (rfl)); (focus (unfold FS at hSw; (go_simp <;> with_reducible rfl))); (try simp only [Act.put, List.setIfInBounds_toArray, List.set_cons_zero, List.set_cons_succ])))
    refine plan_run rfl ?_ (fun K hK => ?_)
    focus (rfl)
    go_simp
    refine (may_sl _ _ _ hsh).mono ?_
    rintro e W3 ⟨rfl, hb3⟩
    have hS3 := hS2.keep hb3
    refine hK.out _ _ hS3 ?_
    clear hK K hS2 hb3 hsh
    (try simp only [Act.put, List.setIfInBounds_toArray, List.set_cons_zero, List.set_cons_succ])
    generalize hg1 : wmay ys = G1
    have HG1 := Lib.hid hg1
    clear hg1
    cases G1
    · iterate 3 (first | (refine plan_skip rfl ?_ ?_; (focus (rfl)); (try simp only [Act.put, List.setIfInBounds_toArray, List.set_cons_zero, List.set_cons_succ])) | (refine plan_take (v := ?_) rfl ?_ (fun w hSw => ?_) ?_; rotate_left; (focus (rfl)); (focus (unfold FS at hSw; (go_simp <;> with_reducible rfl))); (try simp only [Act.put, List.setIfInBounds_toArray, List.set_cons_zero, List.set_cons_succ])))
      (refine plan_run_skip rfl ?_ hS3 ?_; (focus (rfl)); (try simp only [Act.put, List.setIfInBounds_toArray, List.set_cons_zero, List.set_cons_succ]))
      iterate 23 (first | (refine plan_skip rfl ?_ ?_; (focus (rfl)); (try simp only [Act.put, List.setIfInBounds_toArray, List.set_cons_zero, List.set_cons_succ])) | (refine plan_take (v := ?_) rfl ?_ (fun w hSw => ?_) ?_; rotate_left; (focus (rfl)); (focus (unfold FS at hSw; (go_simp <;> with_reducible rfl))); (try simp only [Act.put, List.setIfInBounds_toArray, List.set_cons_zero, List.set_cons_succ])))
      refine plan_done ?_
      go_wp2_with fail
      go_meet
      exact ⟨fin_1 xs now maxT (HY.out ▸ HG1.out) hne, hS3⟩
    · iterate 3 (first | (refine plan_skip rfl ?_ ?_; (focus (rfl)); (try simp only [Act.put, List.setIfInBounds_toArray, List.set_cons_zero, List.set_cons_succ])) | (refine plan_take (v := ?_) rfl ?_ (fun w hSw => ?_) ?_; rotate_left; (focus (rfl)); (focus (unfold FS at hSw; (go_simp <;> with_reducible rfl))); (try simp only [Act.put, List.setIfInBounds_toArray, List.set_cons_zero, List.set_cons_succ])))
      refine plan_run rfl ?_ (fun K hK => ?_)
      focus (rfl)
      go_simp
      refine (may_sl _ _ _ hS3.2.2.2.2.1).mono ?_
      rintro e W4 ⟨rfl, hb4⟩
      have hS4 := hS3.keep hb4
      refine hK.out _ _ hS4 ?_
      clear hK K hS3 hb4
      (try simp only [Act.put, List.setIfInBounds_toArray, List.set_cons_zero, List.set_cons_succ])
      generalize hg2 : wmay xs = G2
      have HG2 := Lib.hid hg2
      clear hg2
      cases G2
      · iterate 23 (first | (refine plan_skip rfl ?_ ?_; (focus (rfl)); (try simp only [Act.put, List.setIfInBounds_toArray, List.set_cons_zero, List.set_cons_succ])) | (refine plan_take (v := ?_) rfl ?_ (fun w hSw => ?_) ?_; rotate_left; (focus (rfl)); (focus (unfold FS at hSw; (go_simp <;> with_reducible rfl))); (try simp only [Act.put, List.setIfInBounds_toArray, List.set_cons_zero, List.set_cons_succ])))
        refine plan_done ?_
        go_wp2_with fail
        go_meet
        exact ⟨fin_2 xs now maxT HG2.out, hS4⟩
      · iterate 5 (first | (refine plan_skip rfl ?_ ?_; (focus (rfl)); (try simp only [Act.put, List.setIfInBounds_toArray, List.set_cons_zero, List.set_cons_succ])) | (refine plan_take (v := ?_) rfl ?_ (fun w hSw => ?_) ?_; rotate_left; (focus (rfl)); (focus (unfold FS at hSw; (go_simp <;> with_reducible rfl))); (try simp only [Act.put, List.setIfInBounds_toArray, List.set_cons_zero, List.set_cons_succ])))
        generalize hg3 : decide (maxT < 0) = G3
        have HG3 := Lib.hid hg3
        clear hg3
        cases G3
        rotate_left
        · iterate 18 (first | (refine plan_skip rfl ?_ ?_; (focus (rfl)); (try simp only [Act.put, List.setIfInBounds_toArray, List.set_cons_zero, List.set_cons_succ])) | (refine plan_take (v := ?_) rfl ?_ (fun w hSw => ?_) ?_; rotate_left; (focus (rfl)); (focus (unfold FS at hSw; (go_simp <;> with_reducible rfl))); (try simp only [Act.put, List.setIfInBounds_toArray, List.set_cons_zero, List.set_cons_succ])))
          refine plan_done ?_
          go_wp2_with fail
          go_meet
          exact ⟨fin_3 xs now maxT HG3.out, hS4⟩
        · iterate 4 (first | (refine plan_skip rfl ?_ ?_; (focus (rfl)); (try simp only [Act.put, List.setIfInBounds_toArray, List.set_cons_zero, List.set_cons_succ])) | (refine plan_take (v := ?_) rfl ?_ (fun w hSw => ?_) ?_; rotate_left; (focus (rfl)); (focus (unfold FS at hSw; (go_simp <;> with_reducible rfl))); (try simp only [Act.put, List.setIfInBounds_toArray, List.set_cons_zero, List.set_cons_succ])))
          generalize hg4 : decide (1073741824 < maxT) = G4
          have HG4 := Lib.hid hg4
          clear hg4
          cases G4
          rotate_left
          · iterate 14 (first | (refine plan_skip rfl ?_ ?_; (focus (rfl)); (try simp only [Act.put, List.setIfInBounds_toArray, List.set_cons_zero, List.set_cons_succ])) | (refine plan_take (v := ?_) rfl ?_ (fun w hSw => ?_) ?_; rotate_left; (focus (rfl)); (focus (unfold FS at hSw; (go_simp <;> with_reducible rfl))); (try simp only [Act.put, List.setIfInBounds_toArray, List.set_cons_zero, List.set_cons_succ])))
            refine plan_done ?_
            go_wp2_with fail
            go_meet
            exact ⟨fin_4 xs now maxT HG4.out, hS4⟩
          · iterate 14 (first | (refine plan_skip rfl ?_ ?_; (focus (rfl)); (try simp only [Act.put, List.setIfInBounds_toArray, List.set_cons_zero, List.set_cons_succ])) | (refine plan_take (v := ?_) rfl ?_ (fun w hSw => ?_) ?_; rotate_left; (focus (rfl)); (focus (unfold FS at hSw; (go_simp <;> with_reducible rfl))); (try simp only [Act.put, List.setIfInBounds_toArray, List.set_cons_zero, List.set_cons_succ])))
            refine plan_done ?_
            go_wp2_with fail
            go_meet
            exact ⟨fin_5 xs now maxT last HL.out hne (HY.out ▸ HG1.out) HG2.out HG3.out HG4.out, hS4⟩
  case rest =>
    obtain ⟨rfl, hS⟩ := hcut
    clear c0 c1 c2 c3 hslW hbx hbW hS0 m1 m3 g5 g7 g8 g9 g10 g11 hsl hl1
    generalize hfv : fvalid xs now maxT = fv
    have HF := Lib.hid hfv
    clear hfv
    cases fv
    · go_wp2
      go_ret2
      exact FoundPost.bad HF.out hS.2.2.2.2.2
    · have hbd := fvalid_bd xs now maxT hne HF.out
      have hbn := hbd.2
      have HB := Lib.hid hbd
      clear hbd
      have hS0 := hS
      unfold FS at hS
      obtain ⟨d0, d1, d2, d3, d4, d5⟩ := hS
      go_wp2_with fail
      go_loopw [10] (fun i wr => ∃ k : Nat, k ≤ xs.length ∧ i = .int .i64 k ∧ FS w b off cap xs now maxT last wr ∧ Hid ((xs.dropWhile fun x => !decide (now - x ≤ maxT)) = (xs.drop k).dropWhile fun x => !decide (now - x ≤ maxT)))
        (fun i _ => xs.length - (intOf i).toNat)
      case atStart => exact ⟨0, by omega, rfl, hS0, rfl⟩
      case round =>
        clear d0 d1 d2 d3 d4 d5 hS0
        obtain ⟨k, hk, rfl, hSr, HK⟩ := hrel
        by_cases hlt : k < xs.length
        · have hx := hSr.2.2.2.2.1.at k hlt
          have hbx := HB.out.1 k hlt
          have hdw := dw_drop xs k hlt (fun x => !decide (now - x ≤ maxT))
          generalize xs.getD k 0 = x at hx hbx hdw
          have HD := Lib.hid hdw
          clear hdw
          have c1 := hSr.1
          by_cases hlate : now - x ≤ maxT
          · have hk1 : (k : Int) ≤ (xs.length : Int) := by omega
            have hk2 : (0 : Int) ≤ (k : Int) := by omega
            have hk3 : ¬ xs.length = k := by omega
            have hp1 : decide (now - x ≤ maxT) = true := by simpa using hlate
            go_wp2_with (go_at_call 29; refine (late_any _ k now maxT x _ _ _ b off cap xs.length hlt (by omega) hSr.2.1 hSr.1 hSr.2.2.1 hx (by omega)).mono ?_; rintro e w2 ⟨rfl, m, rfl⟩)
            go_ret2
            refine FoundPost.good HF.out (good_at hlt ?_ hSr.2.2.2.2.1 hSr.2.2.2.2.2 m)
            rw [HK.out, HD.out, if_neg (by simpa using hlate)]
          · have hp1 : decide (now - x ≤ maxT) = false := by simpa using hlate
            go_wp2_with (go_at_call 29; refine (late_any _ k now maxT x _ _ _ b off cap xs.length hlt (by omega) hSr.2.1 hSr.1 hSr.2.2.1 hx (by omega)).mono ?_; rintro e w2 ⟨rfl, m, rfl⟩)
            go_roundw
            case rel =>
              have hh : Hid ((xs.dropWhile fun x => !decide (now - x ≤ maxT)) = (xs.drop (k + 1)).dropWhile fun x => !decide (now - x ≤ maxT)) := by
                show _ = _
                rw [HK.out, HD.out, if_pos (by simpa using hlate)]
              have hf := hSr.keep (below_drewN (Below.refl _ _) m)
              go_light
              (repeat apply Exists.intro)
              exact ⟨⟨k + 1, by omega, by go_num, hf, hh⟩, rfl⟩
            case measure => simp [intOf]; omega
        · have hk3 : k = xs.length := by omega
          have c1 := hSr.1
          clear hk hlt
          subst hk3
          go_wp2
          go_ret2
          refine FoundPost.good HF.out (good_end ?_ hSr.2.2.2.2.1 hSr.2.2.2.2.2)
          rw [HK.out, List.drop_length, List.dropWhile_nil]
end Go.Proofs.Ytjjlfaknebbhfaa
