/- the reader: peek, see, letter, digit, word. Conditions: the reader reads. -/
import Derived.Test.YtaomakhhkjflaaaDoorYr
import Derived.Test.YtaomakhhkjflaaaDoorAa
import Derived.Test.YtaomakhhkjflaaaDoorKz
import Derived.IntWalk
namespace Go.Proofs.YtaomakhhkjflaaaDoor
open Go.ChangeShapes Go.WideShapes Go.ChangeAt Go.RowKit
set_option linter.unusedVariables false
set_option maxRecDepth 100000
/-- a reader at a place -/
def RdAt (W : World) (r : Nat) (s : ByteArray) (i b : Nat) : Prop := W.heap[r]? = some (.cells #[.string s, .int .i64 i, .int .i64 b] 51 (0, 0))
theorem RdAt.keep {W W' : World} {r : Nat} {s : ByteArray} {i b : Nat} (h : RdAt W r s i b) (hb : Below W.heap.size W W') : RdAt W' r s i b := keep_heap h hb
def RdS (r : Nat) (s : ByteArray) (i b : Nat) (W : World) : Prop := W.cell? ⟨r, 0, none⟩ = some (.string s) ∧ W.cell? ⟨r, 1, none⟩ = some (.int .i64 i) ∧ W.cell? ⟨r, 2, none⟩ = some (.int .i64 b)
theorem RdAt.s {W : World} {r : Nat} {s : ByteArray} {i b : Nat} (h : RdAt W r s i b) : RdS r s i b W := ⟨(cells_at h 0 _ rfl).1, (cells_at h 1 _ rfl).1, (cells_at h 2 _ rfl).1⟩
def hdN : List UInt8 → Int
  | [] => 0
  | c :: _ => c.toNat
theorem letterT_any (c : UInt8) (w : World) : Calls Tryd.prog 39 #[.int .u8 c.toNat] w fun e w' => e = .returned (.bool (isA c)) ∧ w' = w := by
  have e : isA c = ((decide ((97 : Int) ≤ c.toNat) && decide ((c.toNat : Int) ≤ 122)) || ((decide ((65 : Int) ≤ c.toNat) && decide ((c.toNat : Int) ≤ 90)) || ((decide ((48 : Int) ≤ c.toNat) && decide ((c.toNat : Int) ≤ 57)) || (decide ((95 : Int) ≤ c.toNat) && decide ((c.toNat : Int) ≤ 95))))) := by
    simp [isA, inL, letL]
  rw [e]
  clear e
  generalize (c.toNat : Int) = z
  go_enter Tryd.func39, Tryd.ntmps39
  go_wp2_with fail
  all_goals
    go_ret
    refine ⟨?_, rfl⟩
    first
    | rfl
    | (refine congrArg (fun b => Ending.returned (Value.bool b)) (Bool.eq_iff_iff.2 ?_); simp; omega)
def isD (c : UInt8) : Bool := decide ((48 : Int) ≤ c.toNat) && decide ((c.toNat : Int) ≤ 57)
theorem digitT_any (c : UInt8) (w : World) : Calls Tryd.prog 45 #[.int .u8 c.toNat] w fun e w' => e = .returned (.bool (isD c)) ∧ w' = w := by
  unfold isD
  generalize (c.toNat : Int) = z
  go_enter Tryd.func45, Tryd.ntmps45
  go_wp2_with fail
  all_goals
    go_ret
    refine ⟨?_, rfl⟩
    first
    | rfl
    | (refine congrArg (fun b => Ending.returned (Value.bool b)) (Bool.eq_iff_iff.2 ?_); simp; omega)
def PeekP (W : World) (l : List UInt8) (e : Ending) (W' : World) : Prop := e = .returned (.int .u8 (hdN l)) ∧ Below W.heap.size W W'
set_option maxHeartbeats 4000000 in
theorem peek_any (W : World) (r : Nat) (s : ByteArray) (i b : Nat) (l : List UInt8) (h : RdAt W r s i b) (hl : Rest s i l) (hs : s.size ≤ 1099511627776) : Calls Tryd.prog 38 #[.pointer (some ⟨r, 0, none⟩)] W (PeekP W l) := by
  have hS := h.s
  have hS1 : RdS r s i b W.drew := by
    have := (h.keep (Below.refl W.heap.size W).drew).s
    exact this
  have hS2 : RdS r s i b W.drew.drew := by
    have := (h.keep ((Below.refl W.heap.size W).drew.drew)).s
    exact this
  have hb2 : Below W.heap.size W W.drew.drew := (Below.refl _ _).drew.drew
  have hb1 : Below W.heap.size W W.drew := (Below.refl _ _).drew
  have hrl := heap_lt h
  clear h hS
  cases l with
  | nil =>
    obtain rfl := hl.nil
    have HB := Lib.hid hb1
    clear hb1 hb2 hS2 hl
    go_enter Tryd.func38, Tryd.ntmps38
    go_wp2_with fail
    refine region_plan (RdS r s s.size b) [(0, 0), (1, 0), (2, 0), (3, 0), (4, 0), (5, 0), (6, 0), (7, 0), (8, 0), (9, 0)] (by kernel_rfl) (by kernel_rfl) (by kernel_rfl) hS1 ?_
    generalize W.drew = WD at *
    iterate 10 (first | (refine plan_skip rfl ?_ ?_; (focus (rfl)); (try simp only [Act.put, List.setIfInBounds_toArray, List.set_cons_zero, List.set_cons_succ])) | (refine plan_take (v := ?_) rfl ?_ (fun w hSw => ?_) ?_; rotate_left; (focus (rfl)); (focus (unfold RdS at hSw; (go_simp <;> with_reducible rfl))); (try simp only [Act.put, List.setIfInBounds_toArray, List.set_cons_zero, List.set_cons_succ])))
    refine plan_done ?_
    go_wp2_with fail
    go_ret
    exact ⟨rfl, HB.out⟩
  | cons c l =>
    obtain ⟨hi, hc, -⟩ := hl.next
    have hci : s[i] = c := by
      have hz : s.data.toList.length = s.size := Array.length_toList
      rw [List.getElem?_eq_getElem (by omega)] at hc
      exact Option.some.inj hc
    have HB := Lib.hid hb2
    have HCI := Lib.hid hci
    clear hb1 hb2 hl hc hci
    go_enter Tryd.func38, Tryd.ntmps38
    go_wp2_with fail
    refine region_plan (RdS r s i b) [(0, 0), (1, 0), (2, 0), (3, 0), (4, 0), (5, 0), (6, 0), (7, 0), (8, 0), (9, 0)] (by kernel_rfl) (by kernel_rfl) (by kernel_rfl) hS1 ?_
    generalize W.drew = WD at *
    iterate 10 (first | (refine plan_skip rfl ?_ ?_; (focus (rfl)); (try simp only [Act.put, List.setIfInBounds_toArray, List.set_cons_zero, List.set_cons_succ])) | (refine plan_take (v := ?_) rfl ?_ (fun w hSw => ?_) ?_; rotate_left; (focus (rfl)); (focus (unfold RdS at hSw; (go_simp <;> with_reducible rfl))); (try simp only [Act.put, List.setIfInBounds_toArray, List.set_cons_zero, List.set_cons_succ])))
    refine plan_done ?_
    clear hS1
    go_wp2_with fail
    refine region_plan (RdS r s i b) [(0, 0), (1, 0), (2, 0), (3, 0), (4, 0), (5, 0), (6, 0), (7, 0), (8, 0), (9, 0)] (by kernel_rfl) (by kernel_rfl) (by kernel_rfl) hS2 ?_
    generalize WD.drew = WE at *
    iterate 10 (first | (refine plan_skip rfl ?_ ?_; (focus (rfl)); (try simp only [Act.put, List.setIfInBounds_toArray, List.set_cons_zero, List.set_cons_succ])) | (refine plan_take (v := ?_) rfl ?_ (fun w hSw => ?_) ?_; rotate_left; (focus (rfl)); (focus (unfold RdS at hSw; (go_simp <;> with_reducible rfl))); (try simp only [Act.put, List.setIfInBounds_toArray, List.set_cons_zero, List.set_cons_succ])))
    refine plan_done ?_
    go_wp2_with fail
    go_ret
    exact ⟨by rw [HCI.out]; rfl, HB.out⟩
def SeeP (W : World) (r : Nat) (s : ByteArray) (i b : Nat) (l w : List UInt8) (e : Ending) (W' : World) : Prop :=
  Chg (fun k => k = r) W W' ∧ ((w <+: l ∧ e = .returned (.bool true) ∧ RdAt W' r s (i + w.length) b) ∨ (¬ w <+: l ∧ e = .returned (.bool false) ∧ RdAt W' r s i b))
set_option maxHeartbeats 4000000 in
theorem see_any (W : World) (r : Nat) (s : ByteArray) (i b : Nat) (l w : List UInt8) (h : RdAt W r s i b) (hl : Rest s i l) (hs : s.size ≤ 1099511627776) (hw : w.length ≤ 100) : Calls Tryd.prog 40 #[.pointer (some ⟨r, 0, none⟩), .string ⟨w.toArray⟩] W (SeeP W r s i b l w) := by
  have hb1 : Below W.heap.size W W.drew := (Below.refl _ _).drew
  have hD := h.keep hb1
  have hS1 := hD.s
  have his := hl.1
  by_cases hfit : i + w.length ≤ s.size
  · have hsee := hl.see w hfit
    have hw1 : IntKind.i64.wrap ((s.size : Int) - i) = (s.size : Int) - i := IntWalk.i64_in _ (by omega)
    have hw2 : IntKind.i64.wrap ((i : Int) + w.length) = (i : Int) + w.length := IntWalk.i64_in _ (by omega)
    have hd1 : decide ((w.length : Int) ≤ (s.size : Int) - i) = true := by simp; omega
    have ha1 : 0 ≤ (i : Int) + w.length := by omega
    have ha2 : (i : Int) + w.length ≤ s.size := by omega
    have ha3 : (i : Int) ≤ (i : Int) + w.length := by omega
    have ha4 : ((i : Int) + w.length).toNat = i + w.length := by omega
    by_cases hp : w <+: l
    · have hq : ((s.extract i (i + w.length)).toList == w) = true := by rw [hsee.2 hp, ByteArray.toList_eq]; simp
      have HP := Lib.hid hp
      have HD := Lib.hid hD
      have HB := Lib.hid hb1
      have hrl := heap_lt hD
      clear hsee hp h hl hb1 hD
      go_enter Tryd.func40, Tryd.ntmps40
      go_wp2_with fail
      refine region_plan (RdS r s i b) [(0, 0), (1, 0), (2, 0), (3, 0), (4, 0), (5, 0), (6, 0), (7, 0), (8, 0), (9, 0), (10, 0), (11, 0), (12, 0), (13, 0), (14, 0), (15, 0), (16, 0), (17, 0), (18, 0), (19, 0), (20, 0), (21, 0), (22, 0), (23, 0), (24, 0), (25, 0), (26, 0), (27, 0), (28, 0), (29, 0), (30, 0), (31, 0), (32, 0)] (by kernel_rfl) (by kernel_rfl) (by kernel_rfl) hS1 ?_
      generalize W.drew = WD at *
      iterate 33 (first | (refine plan_skip rfl ?_ ?_; (focus (rfl)); (try simp only [Act.put, List.setIfInBounds_toArray, List.set_cons_zero, List.set_cons_succ])) | (refine plan_take (v := ?_) rfl ?_ (fun w hSw => ?_) ?_; rotate_left; (focus (rfl)); (focus (unfold RdS at hSw; (go_simp <;> with_reducible rfl))); (try simp only [Act.put, List.setIfInBounds_toArray, List.set_cons_zero, List.set_cons_succ])))
      refine plan_done ?_
      clear hS1
      obtain ⟨x0, -⟩ := cells_at HD.out 0 _ rfl
      obtain ⟨x1, x1f⟩ := cells_at HD.out 1 _ rfl
      have HF : Hid (Chg (fun k => k = r) W (WD.setCell ⟨r, 1, none⟩ (.int .i64 ((i : Int) + w.length))) ∧ RdAt (WD.setCell ⟨r, 1, none⟩ (.int .i64 ((i : Int) + w.length))) r s (i + w.length) b) := Lib.hid
        ⟨(chg_of_below HB.out _).trans (chg_set (w := WD) (p := ⟨r, 1, none⟩) (.int .i64 ((i : Int) + w.length))), by
          have h := set_at (i := 1) HD.out (.int .i64 ((i : Int) + w.length))
          exact h⟩
      go_wp2_with fail
      go_ret
      exact ⟨HF.out.1, .inl ⟨HP.out, rfl, HF.out.2⟩⟩
    · have hq : ((s.extract i (i + w.length)).toList == w) = false := by
        rw [Bool.eq_false_iff]
        intro e
        refine hp (hsee.1 ?_)
        rw [beq_iff_eq, ByteArray.toList_eq] at e
        exact bytes_ext e
      have HP := Lib.hid hp
      have HD := Lib.hid hD
      have HB := Lib.hid hb1
      clear hsee hp h hl hb1 hD
      go_enter Tryd.func40, Tryd.ntmps40
      go_wp2_with fail
      refine region_plan (RdS r s i b) [(0, 0), (1, 0), (2, 0), (3, 0), (4, 0), (5, 0), (6, 0), (7, 0), (8, 0), (9, 0), (10, 0), (11, 0), (12, 0), (13, 0), (14, 0), (15, 0), (16, 0), (17, 0), (18, 0), (19, 0), (20, 0), (21, 0), (22, 0), (23, 0), (24, 0), (25, 0), (26, 0), (27, 0), (28, 0), (29, 0), (30, 0), (31, 0), (32, 0)] (by kernel_rfl) (by kernel_rfl) (by kernel_rfl) hS1 ?_
      generalize W.drew = WD at *
      iterate 33 (first | (refine plan_skip rfl ?_ ?_; (focus (rfl)); (try simp only [Act.put, List.setIfInBounds_toArray, List.set_cons_zero, List.set_cons_succ])) | (refine plan_take (v := ?_) rfl ?_ (fun w hSw => ?_) ?_; rotate_left; (focus (rfl)); (focus (unfold RdS at hSw; (go_simp <;> with_reducible rfl))); (try simp only [Act.put, List.setIfInBounds_toArray, List.set_cons_zero, List.set_cons_succ])))
      refine plan_done ?_
      go_wp2_with fail
      go_ret
      exact ⟨chg_of_below HB.out _, .inr ⟨HP.out, rfl, HD.out⟩⟩
  · have hp := hl.short hfit
    have hw1 : IntKind.i64.wrap ((s.size : Int) - i) = (s.size : Int) - i := IntWalk.i64_in _ (by omega)
    have hd1 : decide ((w.length : Int) ≤ (s.size : Int) - i) = false := by simp; omega
    have HP := Lib.hid hp
    have HD := Lib.hid hD
    have HB := Lib.hid hb1
    clear hp h hl hb1 hD hfit
    go_enter Tryd.func40, Tryd.ntmps40
    go_wp2_with fail
    refine region_plan (RdS r s i b) [(0, 0), (1, 0), (2, 0), (3, 0), (4, 0), (5, 0), (6, 0), (7, 0), (8, 0), (9, 0), (10, 0), (11, 0), (12, 0), (13, 0), (14, 0), (15, 0), (16, 0), (17, 0), (18, 0), (19, 0), (20, 0), (21, 0), (22, 0), (23, 0), (24, 0), (25, 0), (26, 0), (27, 0), (28, 0), (29, 0), (30, 0), (31, 0), (32, 0)] (by kernel_rfl) (by kernel_rfl) (by kernel_rfl) hS1 ?_
    generalize W.drew = WD at *
    iterate 33 (first | (refine plan_skip rfl ?_ ?_; (focus (rfl)); (try simp only [Act.put, List.setIfInBounds_toArray, List.set_cons_zero, List.set_cons_succ])) | (refine plan_take (v := ?_) rfl ?_ (fun w hSw => ?_) ?_; rotate_left; (focus (rfl)); (focus (unfold RdS at hSw; (go_simp <;> with_reducible rfl))); (try simp only [Act.put, List.setIfInBounds_toArray, List.set_cons_zero, List.set_cons_succ])))
    refine plan_done ?_
    go_wp2_with fail
    go_ret
    exact ⟨chg_of_below HB.out _, .inr ⟨HP.out, rfl, HD.out⟩⟩
def rdPos (r : Nat) (W : World) : Nat := match W.cell? ⟨r, 1, none⟩ with | some v => (intOf v).toNat | none => 0
theorem RdAt.pos {W : World} {r : Nat} {s : ByteArray} {i b : Nat} (h : RdAt W r s i b) : rdPos r W = i := by
  unfold rdPos
  rw [h.s.2.1]
  simp [intOf]
def WordP (W : World) (r : Nat) (s : ByteArray) (i b : Nat) (w : List UInt8) (e : Ending) (W' : World) : Prop := e = .returned (.string ⟨w.toArray⟩) ∧ Chg (fun k => k = r) W W' ∧ RdAt W' r s (i + w.length) b
theorem Chg.drew {S : Nat → Prop} {W W' : World} (h : Chg S W W') : Chg S W W'.drew := ⟨h.os, h.tape, h.output, h.size, h.block⟩
set_option maxHeartbeats 4000000 in
theorem word_any (W : World) (r : Nat) (s : ByteArray) (i b : Nat) (w l : List UInt8) (h : RdAt W r s i b) (hl : Rest s i (w ++ l)) (hw : ∀ c ∈ w, isA c = true) (hn : ∀ c l', l = c :: l' → isA c = false) (hs : s.size ≤ 1099511627776) : Calls Tryd.prog 47 #[.pointer (some ⟨r, 0, none⟩)] W (WordP W r s i b w) := by
  obtain ⟨x1, x1f⟩ := cells_at h 1 _ rfl
  have hrl := heap_lt h
  have HH := Lib.hid h
  have HL := Lib.hid hl
  have HW := Lib.hid hw
  have HNX := Lib.hid hn
  obtain ⟨hfit, hrest, hext⟩ := hl.app
  have HE := Lib.hid hext
  clear h hl hw hn hrest hext
  go_enter Tryd.func47, Tryd.ntmps47
  go_wp2_with fail
  clear x1 x1f
  go_loopw [] (fun wr => ∃ k : Nat, k ≤ w.length ∧ Hid (Chg (fun k => k = r) W wr ∧ RdAt wr r s (i + k) b)) (fun wr => i + w.length - rdPos r wr)
  case atStart => exact ⟨0, by omega, Lib.hid ⟨Chg.refl _ _, HH.out⟩⟩
  case round =>
    obtain ⟨k, hk, HI⟩ := hrel
    have hpos := HI.out.2.pos
    have hrd : Rest s (i + k) (w.drop k ++ l) := by
      have h1 := HL.out
      rw [← List.take_append_drop k w, List.append_assoc] at h1
      have h2 := (Rest.app h1).2.1
      rw [List.length_take, Nat.min_eq_left hk] at h2
      exact h2
    have HPK := Lib.hid (peek_any wr r s (i + k) b _ HI.out.2 hrd hs)
    by_cases hlt : k < w.length
    · obtain ⟨c, hc⟩ : ∃ c, w[k]? = some c := ⟨w[k], by simp [hlt]⟩
      have hdr : w.drop k = c :: w.drop (k + 1) := by
        rw [List.drop_eq_getElem_cons hlt]
        congr 1
        rw [List.getElem?_eq_getElem hlt] at hc
        exact Option.some.inj hc
      rw [hdr] at HPK
      have HLT := Lib.hid (letterT_any c)
      rw [HW.out c (List.mem_of_getElem? hc)] at HLT
      simp only [List.cons_append] at HPK
      clear hrd hdr hc
      go_wp2_with fail
      refine HPK.out.mono ?_
      rintro e w2 ⟨rfl, hb2⟩
      simp only [hdN]
      go_wp2_with fail
      refine (HLT.out _).mono ?_
      rintro e w3 ⟨rfl, rfl⟩
      have hR := HI.out.2.keep hb2
      obtain ⟨x1, x1f⟩ := cells_at hR 1 _ rfl
      have hrl2 := heap_lt hR
      have hset := set_at (i := 1) hR (.int .i64 ((i : Int) + k + 1))
      have hcs := chg_set (w := w3) (p := ⟨r, 1, none⟩) (.int .i64 ((i : Int) + k + 1))
      have hww : IntKind.i64.wrap ((i : Int) + k + 1) = (i : Int) + k + 1 := IntWalk.i64_in _ (by omega)
      have HF : Hid (Chg (fun k => k = r) W (w3.setCell ⟨r, 1, none⟩ (.int .i64 ((i : Int) + k + 1))) ∧ RdAt (w3.setCell ⟨r, 1, none⟩ (.int .i64 ((i : Int) + k + 1))) r s (i + (k + 1)) b) := Lib.hid
        ⟨(HI.out.1.trans (chg_of_below hb2 _)).trans hcs, hset⟩
      clear hR hset hcs hb2 HPK
      go_wp2_with fail
      go_roundw
      case rel => exact ⟨k + 1, by omega, HF⟩
      case measure =>
        rw [HF.out.2.pos, hpos]
        omega
    · obtain rfl : k = w.length := by omega
      rw [List.drop_length, List.nil_append] at HPK
      have hlt : ∃ c : UInt8, hdN l = c.toNat ∧ isA c = false := by
        cases l with
        | nil => exact ⟨0, rfl, by decide⟩
        | cons c l' => exact ⟨c, rfl, HNX.out c l' rfl⟩
      obtain ⟨c, hc1, hc2⟩ := hlt
      have HLT := Lib.hid (letterT_any c)
      rw [hc2] at HLT
      have HC1 := Lib.hid hc1
      clear hrd hc1 hc2
      go_wp2_with fail
      refine HPK.out.mono ?_
      rintro e w2 ⟨rfl, hb2⟩
      rw [HC1.out]
      go_wp2_with fail
      refine (HLT.out _).mono ?_
      rintro e w3 ⟨rfl, rfl⟩
      have hR := HI.out.2.keep hb2
      have hD := hR.keep (Below.refl w3.heap.size w3).drew
      have hS := hD.s
      have HD := Lib.hid hD
      have HF : Hid (Chg (fun k => k = r) W w3.drew) := Lib.hid ((HI.out.1.trans (chg_of_below hb2 _)).drew)
      have ha1 : 0 ≤ (i : Int) + w.length := by omega
      have ha2 : (i : Int) + w.length ≤ s.size := by omega
      have ha3 : (i : Int) ≤ (i : Int) + w.length := by omega
      have ha4 : ((i : Int) + w.length).toNat = i + w.length := by omega
      clear hR hD hb2 HPK HLT hpos
      go_wp2_with fail
      refine region_plan (RdS r s (i + w.length) b) [(0, 0), (1, 0), (2, 0), (3, 0), (4, 0), (5, 0), (6, 0), (7, 0), (8, 0), (9, 0), (10, 0)] (by kernel_rfl) (by kernel_rfl) (by kernel_rfl) hS ?_
      generalize w3.drew = WD at *
      iterate 11 (first | (refine plan_skip rfl ?_ ?_; (focus (rfl)); (try simp only [Act.put, List.setIfInBounds_toArray, List.set_cons_zero, List.set_cons_succ])) | (refine plan_take (v := ?_) rfl ?_ (fun w hSw => ?_) ?_; rotate_left; (focus (rfl)); (focus (unfold RdS at hSw; (go_simp <;> with_reducible rfl))); (try simp only [Act.put, List.setIfInBounds_toArray, List.set_cons_zero, List.set_cons_succ])))
      refine plan_done ?_
      clear hS
      go_wp2_with fail
      go_ret
      exact ⟨by rw [← HE.out]; rfl, HF.out, HD.out⟩
end Go.Proofs.YtaomakhhkjflaaaDoor
