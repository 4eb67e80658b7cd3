/- the reader: digits. Conditions: the reader reads; the number is let be. -/
import Derived.Test.YtaomakhhkjflaaaDoorYx
import Derived.Test.YtaomakhhkjflaaaDoorYu
namespace Go.Proofs.YtaomakhhkjflaaaDoor
open Go.ChangeShapes Go.WideShapes Go.ChangeAt Go.RowKit
set_option linter.unusedVariables false
set_option maxRecDepth 100000
def DigP (W : World) (r : Nat) (s : ByteArray) (i b u : Nat) (e : Ending) (W' : World) : Prop := e = .returned (.tuple #[.int .i64 u, .int .i64 0]) ∧ Chg (fun k => k = r) W W' ∧ RdAt W' r s (i + (Lib.decDigits u).length) b
theorem isD_dec (u : Nat) : ∀ c ∈ Lib.decDigits u, isD c = true := fun c hc => by
  have := dec_digits u c hc
  simp only [isD, Bool.and_eq_true, decide_eq_true_eq]
  omega
set_option maxHeartbeats 8000000 in
theorem digits_any (W : World) (r : Nat) (s : ByteArray) (i b u : Nat) (most : Int) (l : List UInt8) (h : RdAt W r s i b) (hl : Rest s i (Lib.decDigits u ++ l)) (hn : ∀ c l', l = c :: l' → isD c = false) (hs : s.size ≤ 1099511627776) (hu : (u : Int) ≤ most) (hm : most ≤ 576460752303423488) :
    Calls Tryd.prog 44 #[.pointer (some ⟨r, 0, none⟩), .int .u64 most] W (DigP W r s i b u) := by
  obtain ⟨x1, x1f⟩ := cells_at h 1 _ rfl
  have hrl := heap_lt h
  have HH := Lib.hid h
  have HL := Lib.hid hl
  have HW := Lib.hid (isD_dec u)
  have HNX := Lib.hid hn
  obtain ⟨hfit, hrest, hext⟩ := hl.app
  have HE := Lib.hid hext
  have HPU := Lib.hid (parseuint_any u (by omega))
  have HNE := Lib.hid (dec_ne u)
  have HHD := Lib.hid (dec_head u)
  unfold DigP
  generalize Lib.decDigits u = w at *
  clear h hl hn hrest hext
  go_enter Tryd.func44, Tryd.ntmps44
  go_wp2_with fail
  clear x1 x1f
  go_loopw [] (fun wr => ∃ k : Nat, k ≤ w.length ∧ Hid (Chg (fun k => k = r) W wr ∧ RdAt wr r s (i + k) b)) (fun wr => i + w.length - rdPos r wr)
  case atStart => exact ⟨0, by omega, Lib.hid ⟨Chg.refl _ _, HH.out⟩⟩
  case round =>
    obtain ⟨k, hk, HI⟩ := hrel
    have hpos := HI.out.2.pos
    have hrd : Rest s (i + k) (w.drop k ++ l) := by
      have h1 := HL.out
      rw [← List.take_append_drop k w, List.append_assoc] at h1
      have h2 := (Rest.app h1).2.1
      rw [List.length_take, Nat.min_eq_left hk] at h2
      exact h2
    have HPK := Lib.hid (peek_any wr r s (i + k) b _ HI.out.2 hrd hs)
    by_cases hlt : k < w.length
    · obtain ⟨c, hc⟩ : ∃ c, w[k]? = some c := ⟨w[k], by simp [hlt]⟩
      have hdr : w.drop k = c :: w.drop (k + 1) := by
        rw [List.drop_eq_getElem_cons hlt]
        congr 1
        rw [List.getElem?_eq_getElem hlt] at hc
        exact Option.some.inj hc
      rw [hdr] at HPK
      have HLT := Lib.hid (digitT_any c)
      rw [HW.out c (List.mem_of_getElem? hc)] at HLT
      simp only [List.cons_append] at HPK
      clear hrd hdr hc
      go_wp2_with fail
      refine HPK.out.mono ?_
      rintro e w2 ⟨rfl, hb2⟩
      simp only [hdN]
      go_wp2_with fail
      refine (HLT.out _).mono ?_
      rintro e w3 ⟨rfl, rfl⟩
      have hR := HI.out.2.keep hb2
      obtain ⟨x1, x1f⟩ := cells_at hR 1 _ rfl
      have hrl2 := heap_lt hR
      have hset := set_at (i := 1) hR (.int .i64 ((i : Int) + k + 1))
      have hcs := chg_set (w := w3) (p := ⟨r, 1, none⟩) (.int .i64 ((i : Int) + k + 1))
      have hww : IntKind.i64.wrap ((i : Int) + k + 1) = (i : Int) + k + 1 := IntWalk.i64_in _ (by omega)
      have HF : Hid (Chg (fun k => k = r) W (w3.setCell ⟨r, 1, none⟩ (.int .i64 ((i : Int) + k + 1))) ∧ RdAt (w3.setCell ⟨r, 1, none⟩ (.int .i64 ((i : Int) + k + 1))) r s (i + (k + 1)) b) := Lib.hid
        ⟨(HI.out.1.trans (chg_of_below hb2 _)).trans hcs, hset⟩
      clear hR hset hcs hb2 HPK
      go_wp2_with fail
      go_roundw
      case rel => exact ⟨k + 1, by omega, HF⟩
      case measure =>
        rw [HF.out.2.pos, hpos]
        omega
    · obtain rfl : k = w.length := by omega
      rw [List.drop_length, List.nil_append] at HPK
      have hlt : ∃ c : UInt8, hdN l = c.toNat ∧ isD c = false := by
        cases l with
        | nil => exact ⟨0, rfl, by decide⟩
        | cons c l' => exact ⟨c, rfl, HNX.out c l' rfl⟩
      obtain ⟨c, hc1, hc2⟩ := hlt
      have HLT := Lib.hid (digitT_any c)
      rw [hc2] at HLT
      have HC1 := Lib.hid hc1
      clear hrd hc1 hc2
      go_wp2_with fail
      refine HPK.out.mono ?_
      rintro e w2 ⟨rfl, hb2⟩
      rw [HC1.out]
      go_wp2_with fail
      refine (HLT.out _).mono ?_
      rintro e w3 ⟨rfl, rfl⟩
      have hR := HI.out.2.keep hb2
      have hD := hR.keep (Below.refl w3.heap.size w3).drew
      have hS := hD.s
      have HD := Lib.hid hD
      have HF : Hid (Chg (fun k => k = r) W w3.drew) := Lib.hid ((HI.out.1.trans (chg_of_below hb2 _)).drew)
      have ha1 : 0 ≤ (i : Int) + w.length := by omega
      have ha2 : (i : Int) + w.length ≤ s.size := by omega
      have ha3 : (i : Int) ≤ (i : Int) + w.length := by omega
      have ha4 : ((i : Int) + w.length).toNat = i + w.length := by omega
      clear hR hD hb2 HPK HLT hpos
      go_wp2_with fail
      refine region_plan (RdS r s (i + w.length) b) [(0, 0), (1, 0), (2, 0), (3, 0), (4, 0), (5, 0), (6, 0), (7, 0), (8, 0), (9, 0), (10, 0)] (by kernel_rfl) (by kernel_rfl) (by kernel_rfl) hS ?_
      generalize w3.drew = WD at *
      iterate 11 (first | (refine plan_skip rfl ?_ ?_; (focus (rfl)); (try simp only [Act.put, List.setIfInBounds_toArray, List.set_cons_zero, List.set_cons_succ])) | (refine plan_take (v := ?_) rfl ?_ (fun w hSw => ?_) ?_; rotate_left; (focus (rfl)); (focus (unfold RdS at hSw; (go_simp <;> with_reducible rfl))); (try simp only [Act.put, List.setIfInBounds_toArray, List.set_cons_zero, List.set_cons_succ])))
      refine plan_done ?_
      rw [HE.out]
      clear hS ha1 ha2 ha3 ha4
      cases w with
      | nil => exact absurd rfl HNE.out
      | cons c0 t =>
        have hsz : (⟨(c0 :: t).toArray⟩ : ByteArray).size = t.length + 1 := by simp [ByteArray.size]
        have h0 : ∀ h : 0 < (⟨(c0 :: t).toArray⟩ : ByteArray).size, (⟨(c0 :: t).toArray⟩ : ByteArray)[0]'h = c0 := fun _ => rfl
        have hne : ((⟨(c0 :: t).toArray⟩ : ByteArray).toList == []) = false := by rw [ByteArray.toList_eq]; simp
        have hc0 : t ≠ [] → c0.toNat ≠ 48 := HHD.out c0 t rfl
        have hlen : (c0 :: t).length = t.length + 1 := rfl
        rw [hlen] at *
        generalize (⟨(c0 :: t).toArray⟩ : ByteArray) = bs at *
        have hpos : 0 < bs.size := by omega
        have hb0 := h0 hpos
        clear h0
        by_cases ht : t = []
        · have hd1 : decide (1 < (bs.size : Int)) = false := by simp [hsz, ht]
          clear hc0
          go_wp2_with fail
          refine (HPU.out _).mono ?_
          rintro e w5 ⟨rfl, hb5⟩
          have HF5 : Hid (Chg (fun k => k = r) W w5 ∧ RdAt w5 r s (i + (t.length + 1)) b) := Lib.hid ⟨HF.out.trans (chg_of_below hb5 _), HD.out.keep hb5⟩
          have hq1 : decide (most < (u : Int)) = false := by simp; omega
          have hq2 : IntKind.i64.wrap (u : Int) = u := IntWalk.i64_in _ (by omega)
          clear hb5 hb0 hne hsz hpos
          go_wp2_with fail
          go_ret2
          exact ⟨rfl, HF5.out.1, HF5.out.2⟩
        · have htl : 1 ≤ t.length := by cases t with | nil => exact absurd rfl ht | cons _ _ => simp
          have hd1 : decide (1 < (bs.size : Int)) = true := by simp; omega
          have hd2 : ((c0.toNat : Int) == 48) = false := by have := hc0 ht; simp; omega
          go_wp2_with fail
          refine (HPU.out _).mono ?_
          rintro e w5 ⟨rfl, hb5⟩
          have HF5 : Hid (Chg (fun k => k = r) W w5 ∧ RdAt w5 r s (i + (t.length + 1)) b) := Lib.hid ⟨HF.out.trans (chg_of_below hb5 _), HD.out.keep hb5⟩
          have hq1 : decide (most < (u : Int)) = false := by simp; omega
          have hq2 : IntKind.i64.wrap (u : Int) = u := IntWalk.i64_in _ (by omega)
          clear hb5 hb0 hne hsz hpos
          go_wp2_with fail
          go_ret2
          exact ⟨rfl, HF5.out.1, HF5.out.2⟩
end Go.Proofs.YtaomakhhkjflaaaDoor
