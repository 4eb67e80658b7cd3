/- the reader: closed, fun. Conditions: the reader reads; the table of letters reads as laid. -/
import Derived.Test.YtaomakhhkjflaaaDoorYy
import Derived.Test.YtaomakhhkjflaaaDoorTr
import Derived.Test.YtaomakhhkjflaaaDoorTf
namespace Go.Proofs.YtaomakhhkjflaaaDoor
open Go.ChangeShapes Go.WideShapes Go.ChangeAt Go.RowKit
set_option linter.unusedVariables false
set_option maxRecDepth 100000
abbrev zT : Array Value := #[.int .i8 0, .int .i64 0, .string ⟨#[]⟩, .string ⟨#[]⟩, .slice none 0 0]
theorem infoTM' (cs : Array Value) (h : cs.size = 5) : (Tryd.prog.info? 25).map (·.size) = some cs.size := by
  rw [h]
  kernel_rfl
theorem ret_row {P : Program} {fn : Func} {R : Ending → World → Prop} {tmps : Array Value} {w : World} {g p q : Nat} {ty t : TypeId} {fr : Nat × Nat} {d : TypeDesc} {cs : Array Value} {u : Value} (hg : w.heap[g]? = some (.cells cs t fr)) (hfn : fn.results = #[.cell p ty, .tmp q])
    (hu : P.underlying ty = some d) (hd : (match d with | .struct _ | .array _ _ => true | _ => false) = true) (hi : (P.info? ty).map (·.size) = some cs.size)
    (hp : tmps.getD p undef = .pointer (some ⟨g, 0, none⟩)) (hq : tmps.getD q undef = u) (hpost : R (.returned (.tuple #[.agg cs, u])) w) : bodyPost P fn R .ret { tmps := tmps, defers := [] } w := by
  refine bodyPost_ret (v := .tuple #[.agg cs, u]) ?_ rfl hpost
  have hl := run_loadVar_row (P := P) w g t ty cs fr d hg hu hd hi
  unfold results
  rw [hfn]
  simp only [Array.getD_eq_getD_getElem?] at hp hq
  simp [asAddr, hp, hq, hl]
/-- what a term is read as -/
def ReadP (W : World) (r : Nat) (s : ByteArray) (i b : Nat) (cs : Array Value) (e : Ending) (W' : World) : Prop := e = .returned (.tuple #[.agg cs, .int .i64 0]) ∧ Chg (fun k => k = r) W W' ∧ RdAt W' r s i b
set_option maxHeartbeats 8000000 in
theorem closed_any (W : World) (r : Nat) (s : ByteArray) (i b u : Nat) (k : Int) (l : List UInt8) (h : RdAt W r s i b) (hl : Rest s i (Lib.decDigits u ++ 62 :: l)) (hs : s.size ≤ 1099511627776) (hu : u ≤ 576460752303423487) :
    Calls Tryd.prog 43 #[.pointer (some ⟨r, 0, none⟩), .int .i8 k] W (ReadP W r s (i + (Lib.decDigits u).length + 1) b #[.int .i8 k, .int .i64 u, .string ⟨#[]⟩, .string ⟨#[]⟩, .slice none 0 0]) := by
  have hn := heap_new W (.cells zT 25)
  have hb := (Below.refl W.heap.size W).alloc (Nat.le_refl _) (.cells zT 25)
  have hrl := heap_lt h
  have HN := Lib.hid hn
  have HB := Lib.hid hb
  have HD := Lib.hid (digits_any _ r s i b u 576460752303423487 _ (h.keep hb) hl (fun c l' e => by injection e with e; subst e; decide) hs (by omega) (by omega))
  have hl2 := hl.app
  have HL2 := Lib.hid hl2.2.1
  clear hn hb h hl hl2
  unfold DigP at HD
  generalize (Lib.decDigits u).length = n at *
  go_enter Tryd.func43, Tryd.ntmps43
  go_wp2_with fail
  generalize W.alloc (.cells zT 25) = W1 at *
  refine HD.out.mono ?_
  rintro e W2 ⟨rfl, hc2, hr2⟩
  have HN2 := Lib.hid (hc2.heap HN.out (fun e => by have e : W.heap.size = r := e; omega))
  have HC2 := Lib.hid ((chg_of_below HB.out (fun k => k = r)).trans hc2)
  have HS := Lib.hid (see_any W2 r s (i + n) b _ [62] hr2 HL2.out hs (by simp))
  clear hc2 hr2 HN HB HD
  go_wp2_with fail
  refine HS.out.mono ?_
  rintro e W3 ⟨hc3, (⟨-, rfl, hr3⟩ | ⟨hf, -⟩)⟩
  · have HN3 := Lib.hid (hc3.heap HN2.out (fun e => by have e : W.heap.size = r := e; omega))
    have HC3 := Lib.hid (HC2.out.trans hc3)
    have HR3 := Lib.hid hr3
    have hw2 := HC2.out.size
    clear hc3 hr3 HN2 HC2 HS
    have hws : W.heap.size ≤ W3.heap.size := HC3.out.size
    go_wp2_with (with_reducible refine stop_op (o := ⟨_, .store 25 (.tmp 4) (.tmp 22), _, _, _, _⟩) ?_)
    refine Lib.hid ?_
    refine wpList_store_row (o := ⟨none, _, _, _, _, _⟩) rfl 25 (.tmp 4) (.tmp 22) rfl W.heap.size #[.int .i8 k, .int .i64 u, .string ⟨#[]⟩, .string ⟨#[]⟩, .slice none 0 0] rfl rfl 25 zT HN3.out (infoTM' _ rfl) rfl (by simp [Value.oneCell']) ?_
    have hcs := chg_setRow W3 W.heap.size #[.int .i8 k, .int .i64 u, .string ⟨#[]⟩, .string ⟨#[]⟩, .slice none 0 0]
    have HX := Lib.hid (setRow_heap W3 W.heap.size _ #[.int .i8 k, .int .i64 u, .string ⟨#[]⟩, .string ⟨#[]⟩, .slice none 0 0] _ _ HN3.out)
    have HF := Lib.hid (And.intro (HC3.out.grow hcs (fun k hk e => by have e : k = W.heap.size := e; omega)) (show RdAt _ r s (i + n + 1) b from hcs.heap HR3.out (fun e => by have e : r = W.heap.size := e; omega)))
    clear hcs
    go_wp2_with fail
    exact ret_row HX.out rfl Tryd.underlying25 rfl (infoTM' _ rfl) rfl rfl ⟨rfl, HF.out.1, HF.out.2⟩
  · exact absurd ⟨l, rfl⟩ hf
theorem preN_all : ∀ {l : List UInt8}, preN l = l.length → ∀ c ∈ l, isA c = true
  | [], _, c, hc => by simp at hc
  | a :: l, h, c, hc => by
    unfold preN at h
    rw [List.takeWhile_cons] at h
    split at h
    · rename_i ha
      rcases List.mem_cons.1 hc with rfl | hc
      · exact ha
      · exact preN_all (by unfold preN; simpa using h) c hc
    · simp at h
theorem mayS_letters {s : ByteArray} (h : mayS s = true) : (∀ c ∈ s.data.toList, isA c = true) ∧ 1 ≤ s.data.toList.length ∧ s.data.toList.length ≤ 32 ∧ lowB s.data.toList = true := by
  simp only [mayS, fitsB, Bool.and_eq_true, decide_eq_true_eq] at h
  exact ⟨preN_all h.1.2.2, h.1.1, h.1.2.1, h.2⟩
theorem mayS_size {a : List UInt8} (h : mayS ⟨a.toArray⟩ = true) : (⟨a.toArray⟩ : ByteArray).size ≤ 9223372036854775807 := by
  have h1 : a.length ≤ 32 := (mayS_letters h).2.2.1
  show a.toArray.size ≤ _
  rw [List.size_toArray]
  omega
theorem cells_chg {S : Nat → Prop} {w w' : World} {o : Nat} {L : List (Int × Int)} (h : Cells w o L) (hc : Chg S w w') (hs : ¬ S 0) : Cells w' o L := fun j r hj => ⟨hc.cell (h j r hj).1 hs, hc.cell (h j r hj).2 hs⟩
def FunP (W : World) (r : Nat) (s : ByteArray) (i b : Nat) (cs : Array Value) (ok : Bool) (e : Ending) (W' : World) : Prop := e = .returned (.tuple #[.agg cs, .bool ok]) ∧ Chg (fun k => k = r) W W' ∧ RdAt W' r s i b
set_option maxHeartbeats 8000000 in
theorem funno_any (W : World) (r : Nat) (s : ByteArray) (i b : Nat) (l : List UInt8) (h : RdAt W r s i b) (hl : Rest s i l) (hs : s.size ≤ 1099511627776) (hne : ¬ [102, 117, 110, 32] <+: l) : Calls Tryd.prog 46 #[.pointer (some ⟨r, 0, none⟩)] W (FunP W r s i b zT false) := by
  have hn := heap_new W (.cells zT 25)
  have hb := (Below.refl W.heap.size W).alloc (Nat.le_refl _) (.cells zT 25)
  have hrl := heap_lt h
  have hR := h.keep hb
  obtain ⟨x1, -⟩ := cells_at hR 1 _ rfl
  have hsee := see_any _ r s i b l [102, 117, 110, 32] hR hl hs (by simp)
  have HN := Lib.hid hn
  have HB := Lib.hid hb
  have HS := Lib.hid hsee
  have HNE := Lib.hid hne
  clear hn hb h hl hR hsee hne
  go_enter Tryd.func46, Tryd.ntmps46
  go_wp2_with fail
  generalize W.alloc (.cells zT 25) = W1 at *
  clear x1
  refine HS.out.mono ?_
  rintro e W3 ⟨hc3, (⟨hf, -⟩ | ⟨-, rfl, hr3⟩)⟩
  · exact absurd hf HNE.out
  · have HN3 := Lib.hid (hc3.heap HN.out (fun e => by have e : W.heap.size = r := e; omega))
    have HC3 := Lib.hid ((chg_of_below HB.out (fun k => k = r)).trans hc3)
    obtain ⟨x1, x1f⟩ := cells_at hr3 1 _ rfl
    have hrl3 := heap_lt hr3
    have hcs1 := chg_set (w := W3) (p := ⟨r, 1, none⟩) (.int .i64 (i : Int))
    have hset := set_at (i := 1) hr3 (.int .i64 (i : Int))
    have HN4 := Lib.hid (hcs1.heap HN3.out (fun e => by have e : W.heap.size = r := e; omega))
    have HC4 := Lib.hid (HC3.out.trans hcs1)
    have HR4 : Hid (RdAt (W3.setCell ⟨r, 1, none⟩ (.int .i64 (i : Int))) r s i b) := Lib.hid hset
    clear hc3 hr3 hcs1 hset HN3 HC3 HS
    go_wp2_with (with_reducible refine stop_op (o := ⟨_, .store 25 (.tmp 2) (.tmp 77), _, _, _, _⟩) ?_)
    refine Lib.hid ?_
    clear x1 x1f
    generalize W3.setCell ⟨r, 1, none⟩ (.int .i64 (i : Int)) = W4 at *
    refine wpList_store_row (o := ⟨none, _, _, _, _, _⟩) rfl 25 (.tmp 2) (.tmp 77) rfl W.heap.size zT rfl rfl 25 zT HN4.out (infoTM' _ rfl) rfl (by simp [Value.oneCell']) ?_
    rw [setRow_self _ _ _ _ _ HN4.out]
    go_wp2_with fail
    exact ret_row HN4.out rfl Tryd.underlying25 rfl (infoTM' _ rfl) rfl rfl ⟨rfl, HC4.out, HR4.out⟩
set_option maxHeartbeats 8000000 in
theorem funok_any (W : World) (r : Nat) (s : ByteArray) (i b : Nat) (a c : List UInt8) (n : Nat) (l : List UInt8) (h : RdAt W r s i b) (hL : Cells W 0 letL) (hr0 : 0 ≠ r) (hl : Rest s i ([102, 117, 110, 32] ++ (a ++ 58 :: (c ++ 47 :: UInt8.ofNat (48 + n) :: l)))) (hs : s.size ≤ 1099511627776)
    (ha : mayS ⟨a.toArray⟩ = true) (hc : mayS ⟨c.toArray⟩ = true) (hn : n ≤ 8) (hln : ∀ c l', l = c :: l' → isD c = false) :
    Calls Tryd.prog 46 #[.pointer (some ⟨r, 0, none⟩)] W (FunP W r s (i + 4 + a.length + 1 + c.length + 1 + 1) b #[.int .i8 3, .int .i64 n, .string ⟨a.toArray⟩, .string ⟨c.toArray⟩, .slice none 0 0] true) := by
  have hx := heap_new W (.cells zT 25)
  have hb := (Below.refl W.heap.size W).alloc (Nat.le_refl _) (.cells zT 25)
  have hrl := heap_lt h
  have hR := h.keep hb
  obtain ⟨x1, -⟩ := cells_at hR 1 _ rfl
  have hsee := see_any _ r s i b _ [102, 117, 110, 32] hR hl hs (by simp)
  have HLA := Lib.hid (mayS_letters ha)
  have HLC := Lib.hid (mayS_letters hc)
  have HRA := Lib.hid (hl.app).2.1
  have HN := Lib.hid hx
  have HB := Lib.hid hb
  have HS := Lib.hid hsee
  have HL := Lib.hid hL
  have HMA := Lib.hid ha
  have HMC := Lib.hid hc
  have HLN := Lib.hid hln
  clear hx hb h hl hR hsee hL ha hc hln
  go_enter Tryd.func46, Tryd.ntmps46
  go_wp2_with fail
  generalize W.alloc (.cells zT 25) = W1 at *
  clear x1
  refine HS.out.mono ?_
  rintro e W3 ⟨hc3, (⟨-, rfl, hr3⟩ | ⟨hf, -⟩)⟩
  · have HN3 := Lib.hid (hc3.heap HN.out (fun e => by have e : W.heap.size = r := e; omega))
    have HC3 := Lib.hid ((chg_of_below HB.out (fun k => k = r)).trans hc3)
    have HW := Lib.hid (word_any W3 r s (i + 4) b a _ hr3 HRA.out HLA.out.1 (fun c l' e => by injection e with e; subst e; decide) hs)
    clear hc3 hr3 HN HB HS
    go_wp2_with fail
    refine HW.out.mono ?_
    rintro e W4 ⟨rfl, hc4, hr4⟩
    have HN4 := Lib.hid (hc4.heap HN3.out (fun e => by have e : W.heap.size = r := e; omega))
    have HC4 := Lib.hid (HC3.out.trans hc4)
    have HR4 := Lib.hid hr4
    clear hc4 hr4 HN3 HC3 HW
    go_wp2_with (with_reducible refine stop_op (o := ⟨_, .store 25 (.tmp 2) (.tmp 15), _, _, _, _⟩) ?_)
    refine Lib.hid ?_
    refine wpList_store_row (o := ⟨none, _, _, _, _, _⟩) rfl 25 (.tmp 2) (.tmp 15) rfl W.heap.size #[.int .i8 3, .int .i64 0, .string ⟨a.toArray⟩, .string ⟨#[]⟩, .slice none 0 0] rfl rfl 25 zT HN4.out (infoTM' _ rfl) rfl (by simp [Value.oneCell']) ?_
    have hcs := chg_setRow W4 W.heap.size #[.int .i8 3, .int .i64 0, .string ⟨a.toArray⟩, .string ⟨#[]⟩, .slice none 0 0]
    have hx5 := setRow_heap W4 W.heap.size _ #[.int .i8 3, .int .i64 0, .string ⟨a.toArray⟩, .string ⟨#[]⟩, .slice none 0 0] _ _ HN4.out
    have HC5 := Lib.hid (HC4.out.grow hcs (fun k hk e => by have e : k = W.heap.size := e; omega))
    have HR5 : Hid (RdAt _ r s (i + 4 + a.length) b) := Lib.hid (hcs.heap HR4.out (fun e => by have e : r = W.heap.size := e; omega))
    have HX5 := Lib.hid hx5
    obtain ⟨y2, -⟩ := cells_at hx5 2 _ rfl
    have hra := (HRA.out.app).2.1
    have HRA2 := Lib.hid hra
    clear hcs hx5 HC4 HR4 HN4 hra
    generalize W4.setRow W.heap.size #[.int .i8 3, .int .i64 0, .string ⟨a.toArray⟩, .string ⟨#[]⟩, .slice none 0 0] = W5 at *
    have HM1 := Lib.hid (may7 ⟨a.toArray⟩ (mayS_size HMA.out) W5 (cells_chg HL.out HC5.out hr0))
    rw [HMA.out] at HM1
    go_wp2_with fail
    refine HM1.out.mono ?_
    rintro e W6 ⟨rfl, hb6⟩
    have HC6 := Lib.hid (HC5.out.trans (chg_of_below hb6 _))
    have HX6 := Lib.hid (keep_heap HX5.out hb6)
    have HS6 := Lib.hid (see_any W6 r s (i + 4 + a.length) b _ [58] (HR5.out.keep hb6) HRA2.out hs (by simp))
    clear hb6 y2 HC5 HX5 HR5 HM1
    go_wp2_with fail
    refine HS6.out.mono ?_
    rintro e W7 ⟨hc7, (⟨-, rfl, hr7⟩ | ⟨hf, -⟩)⟩
    · have HC7 := Lib.hid (HC6.out.trans hc7)
      have HX7 := Lib.hid (hc7.heap HX6.out (fun e => by have e : W.heap.size = r := e; omega))
      have HRB := Lib.hid (Rest.app (a := [58]) HRA2.out).2.1
      have HW7 := Lib.hid (word_any W7 r s (i + 4 + a.length + 1) b c _ hr7 HRB.out HLC.out.1 (fun c l' e => by injection e with e; subst e; decide) hs)
      clear hc7 hr7 HC6 HX6 HS6
      go_wp2_with fail
      refine HW7.out.mono ?_
      rintro e W8 ⟨rfl, hc8, hr8⟩
      have hx8 := hc8.heap HX7.out (fun e => by have e : W.heap.size = r := e; omega)
      obtain ⟨y3, y3f⟩ := cells_at hx8 3 _ rfl
      have hxl := heap_lt hx8
      have hset := set_at (i := 3) hx8 (.string ⟨c.toArray⟩)
      have hcs := chg_set (w := W8) (p := ⟨W.heap.size, 3, none⟩) (.string ⟨c.toArray⟩)
      have HC9 := Lib.hid ((HC7.out.trans hc8).grow hcs (fun k hk e => by have e : k = W.heap.size := e; omega))
      have HX9 : Hid ((W8.setCell ⟨W.heap.size, 3, none⟩ (.string ⟨c.toArray⟩)).heap[W.heap.size]? = some (.cells #[.int .i8 3, .int .i64 0, .string ⟨a.toArray⟩, .string ⟨c.toArray⟩, .slice none 0 0] 25 (0, 0))) := Lib.hid hset
      have HR9 : Hid (RdAt (W8.setCell ⟨W.heap.size, 3, none⟩ (.string ⟨c.toArray⟩)) r s (i + 4 + a.length + 1 + c.length) b) := Lib.hid (hcs.heap hr8 (fun e => by have e : r = W.heap.size := e; omega))
      have HRC := Lib.hid (HRB.out.app).2.1
      obtain ⟨z3, -⟩ := cells_at HX9.out 3 _ rfl
      have HM2 := Lib.hid (may7 ⟨c.toArray⟩ (mayS_size HMC.out) (W8.setCell ⟨W.heap.size, 3, none⟩ (.string ⟨c.toArray⟩)) (cells_chg HL.out HC9.out hr0))
      rw [HMC.out] at HM2
      clear hx8 hset hcs hc8 hr8 HC7 HX7 HW7 z3
      go_wp2_with (with_reducible refine stop_op (o := ⟨_, .load _ (.tmp 26), _, _, _, _⟩) ?_)
      refine Lib.hid ?_
      generalize W8.setCell ⟨W.heap.size, 3, none⟩ (.string ⟨c.toArray⟩) = W9 at *
      clear y3 y3f
      obtain ⟨z3, -⟩ := cells_at HX9.out 3 _ rfl
      go_wp2_with fail
      refine HM2.out.mono ?_
      rintro e W10 ⟨rfl, hb10⟩
      have HC10 := Lib.hid (HC9.out.trans (chg_of_below hb10 _))
      have HX10 := Lib.hid (keep_heap HX9.out hb10)
      have HS10 := Lib.hid (see_any W10 r s (i + 4 + a.length + 1 + c.length) b _ [47] (HR9.out.keep hb10) HRC.out hs (by simp))
      clear hb10 z3 HC9 HX9 HR9 HM2
      go_wp2_with fail
      refine HS10.out.mono ?_
      rintro e W11 ⟨hc11, (⟨-, rfl, hr11⟩ | ⟨hf, -⟩)⟩
      · have HC11 := Lib.hid (HC10.out.trans hc11)
        have HX11 := Lib.hid (hc11.heap HX10.out (fun e => by have e : W.heap.size = r := e; omega))
        have HRD := Lib.hid (Rest.app (a := [47]) HRC.out).2.1
        have HR11 := Lib.hid hr11
        obtain ⟨x1, -⟩ := cells_at hr11 1 _ rfl
        clear hc11 hr11 HC10 HX10 HS10
        simp only [List.length_singleton] at HR11 HRD x1
        generalize hp : i + 4 + a.length + 1 + c.length + 1 = p at *
        have HP := Lib.hid hp
        have hdd : (UInt8.ofNat (48 + n)).toNat = 48 + n := UInt8.toNat_ofNat_of_lt' (by show 48 + n < 256; omega)
        generalize UInt8.ofNat (48 + n) = d at *
        have HDD := Lib.hid hdd
        obtain ⟨hfit, hrest1, hext⟩ := Rest.app (a := [d]) (r := l) HRD.out
        have HRE := Lib.hid hrest1
        have HE := Lib.hid hext
        have hfit' : p + 1 ≤ s.size := hfit
        clear hdd hp hrest1 hext hfit
        go_wp2_with fail
        clear x1
        go_loopw [] (fun wr => ∃ k : Nat, k ≤ 1 ∧ Hid (Chg (fun k => k = r) W wr ∧ RdAt wr r s (p + k) b ∧ wr.heap[W.heap.size]? = some (.cells #[.int .i8 3, .int .i64 0, .string ⟨a.toArray⟩, .string ⟨c.toArray⟩, .slice none 0 0] 25 (0, 0)))) (fun wr => p + 1 - rdPos r wr)
        case atStart => exact ⟨0, by omega, Lib.hid ⟨HC11.out, HR11.out, HX11.out⟩⟩
        case round =>
          clear HC11 HR11 HX11
          obtain ⟨k, hk, HI⟩ := hrel
          have hpos := HI.out.2.1.pos
          by_cases hk0 : k = 0
          · subst hk0
            have HPK := Lib.hid (peek_any _ r s (p + 0) b _ HI.out.2.1 HRD.out hs)
            have HDG := Lib.hid (digitT_any d)
            have hisd : isD d = true := by
              simp only [isD, HDD.out, Bool.and_eq_true, decide_eq_true_eq]
              omega
            rw [hisd] at HDG
            clear hisd
            go_wp2_with fail
            refine HPK.out.mono ?_
            rintro e w2 ⟨rfl, hb2⟩
            simp only [hdN]
            go_wp2_with fail
            refine (HDG.out _).mono ?_
            rintro e w3 ⟨rfl, rfl⟩
            have hR := HI.out.2.1.keep hb2
            obtain ⟨x1, x1f⟩ := cells_at hR 1 _ rfl
            have hrl2 := heap_lt hR
            have hset := set_at (i := 1) hR (.int .i64 ((p : Int) + 1))
            have hcs := chg_set (w := w3) (p := ⟨r, 1, none⟩) (.int .i64 ((p : Int) + 1))
            have hww : IntKind.i64.wrap ((p : Int) + 1) = (p : Int) + 1 := IntWalk.i64_in _ (by omega)
            have HF : Hid (Chg (fun k => k = r) W (w3.setCell ⟨r, 1, none⟩ (.int .i64 ((p : Int) + 1))) ∧ RdAt (w3.setCell ⟨r, 1, none⟩ (.int .i64 ((p : Int) + 1))) r s (p + 1) b ∧ (w3.setCell ⟨r, 1, none⟩ (.int .i64 ((p : Int) + 1))).heap[W.heap.size]? = some (.cells #[.int .i8 3, .int .i64 0, .string ⟨a.toArray⟩, .string ⟨c.toArray⟩, .slice none 0 0] 25 (0, 0))) := Lib.hid
              ⟨(HI.out.1.trans (chg_of_below hb2 _)).trans hcs, hset, hcs.heap (keep_heap HI.out.2.2 hb2) (fun e => by have e : W.heap.size = r := e; omega)⟩
            clear hR hset hcs hb2 HPK
            simp only [Nat.add_zero] at x1
            go_wp2_with fail
            go_roundw
            case rel => exact ⟨1, by omega, HF⟩
            case measure =>
              rw [HF.out.2.1.pos, hpos]
              omega
          · obtain rfl : k = 1 := by omega
            have HPK := Lib.hid (peek_any _ r s (p + 1) b _ HI.out.2.1 HRE.out hs)
            have hlt : ∃ c : UInt8, hdN l = c.toNat ∧ isD c = false := by
              cases l with
              | nil => exact ⟨0, rfl, by decide⟩
              | cons c l' => exact ⟨c, rfl, HLN.out c l' rfl⟩
            obtain ⟨c1, hc1, hc2⟩ := hlt
            have HLT := Lib.hid (digitT_any c1)
            rw [hc2] at HLT
            have HCC := Lib.hid hc1
            clear hc1 hc2 hk0
            go_wp2_with fail
            refine HPK.out.mono ?_
            rintro e w2 ⟨rfl, hb2⟩
            rw [HCC.out]
            go_wp2_with fail
            refine (HLT.out _).mono ?_
            rintro e w3 ⟨rfl, rfl⟩
            have hR := HI.out.2.1.keep hb2
            have hD := hR.keep (Below.refl w3.heap.size w3).drew
            have hS := hD.s
            have HD := Lib.hid hD
            have HF := Lib.hid (And.intro ((HI.out.1.trans (chg_of_below hb2 _)).drew) (keep_heap HI.out.2.2 (hb2.trans ((Below.refl w3.heap.size w3).drew.mono hb2.size))))
            have ha1 : 0 ≤ (p : Int) + 1 := by omega
            have ha2 : (p : Int) + 1 ≤ s.size := by omega
            have ha3 : (p : Int) ≤ (p : Int) + 1 := by omega
            have ha4 : ((p : Int) + 1).toNat = p + 1 := by omega
            clear hR hD hb2 HPK HLT hpos
            go_wp2_with fail
            refine region_plan (RdS r s (p + 1) b) [(0, 0), (1, 0), (2, 0), (3, 0), (4, 0), (5, 0), (6, 0), (7, 0), (8, 0), (9, 0), (10, 0)] (by kernel_rfl) (by kernel_rfl) (by kernel_rfl) hS ?_
            generalize w3.drew = WD at *
            iterate 11 (first | (refine plan_skip rfl ?_ ?_; (focus (rfl)); (try simp only [Act.put, List.setIfInBounds_toArray, List.set_cons_zero, List.set_cons_succ])) | (refine plan_take (v := ?_) rfl ?_ (fun w hSw => ?_) ?_; rotate_left; (focus (rfl)); (focus (unfold RdS at hSw; (go_simp <;> with_reducible rfl))); (try simp only [Act.put, List.setIfInBounds_toArray, List.set_cons_zero, List.set_cons_succ])))
            refine plan_done ?_
            have he2 : s.extract p (p + 1) = ⟨#[d]⟩ := HE.out
            rw [he2]
            have hbs : (⟨#[d]⟩ : ByteArray).size = 1 := rfl
            have hb0 : ∀ h : 0 < (⟨#[d]⟩ : ByteArray).size, (⟨#[d]⟩ : ByteArray)[0]'h = d := fun _ => rfl
            clear he2 hS ha1 ha2 ha3 ha4
            generalize (⟨#[d]⟩ : ByteArray) = bs at *
            have hpos : 0 < bs.size := by omega
            have hb1 := hb0 hpos
            have hw1 : IntKind.u8.wrap ((d.toNat : Int) - 48) = n := by
              rw [HDD.out]
              simp [IntKind.wrap, IntKind.bits, IntKind.signed]
              omega
            have hw2 : IntKind.i64.wrap (n : Int) = n := IntWalk.i64_in _ (by omega)
            have hd8 : decide ((n : Int) ≤ 8) = true := by simp; omega
            obtain ⟨z1, z1f⟩ := cells_at HF.out.2 1 _ rfl
            have hzl := heap_lt HF.out.2
            have hset := set_at (i := 1) HF.out.2 (.int .i64 (n : Int))
            have hcs := chg_set (w := WD) (p := ⟨W.heap.size, 1, none⟩) (.int .i64 (n : Int))
            have HXF : Hid ((WD.setCell ⟨W.heap.size, 1, none⟩ (.int .i64 (n : Int))).heap[W.heap.size]? = some (.cells #[.int .i8 3, .int .i64 n, .string ⟨a.toArray⟩, .string ⟨c.toArray⟩, .slice none 0 0] 25 (0, 0))) := Lib.hid hset
            have HFF := Lib.hid (And.intro (HF.out.1.grow hcs (fun k hk e => by have e : k = W.heap.size := e; omega)) (show RdAt _ r s (p + 1) b from hcs.heap HD.out (fun e => by have e : r = W.heap.size := e; omega)))
            clear hb0 hset hcs
            go_wp2_with (with_reducible refine stop_op (o := ⟨_, .load 25 (.tmp 2), _, _, _, _⟩) ?_)
            refine Lib.hid ?_
            generalize WD.setCell ⟨W.heap.size, 1, none⟩ (.int .i64 (n : Int)) = WF at *
            refine wpList_load_row (o := ⟨_, _, _, _, _, _⟩) rfl 25 (.tmp 2) rfl W.heap.size rfl 25 #[.int .i8 3, .int .i64 n, .string ⟨a.toArray⟩, .string ⟨c.toArray⟩, .slice none 0 0] (0, 0) _ HXF.out Tryd.underlying25 rfl (infoTM' _ rfl) ?_
            go_wp2_with (with_reducible refine stop_op (o := ⟨_, .store 25 (.tmp 2) (.tmp 72), _, _, _, _⟩) ?_)
            refine Lib.hid ?_
            refine wpList_store_row (o := ⟨none, _, _, _, _, _⟩) rfl 25 (.tmp 2) (.tmp 72) rfl W.heap.size #[.int .i8 3, .int .i64 n, .string ⟨a.toArray⟩, .string ⟨c.toArray⟩, .slice none 0 0] rfl rfl 25 #[.int .i8 3, .int .i64 n, .string ⟨a.toArray⟩, .string ⟨c.toArray⟩, .slice none 0 0] HXF.out (infoTM' _ rfl) rfl (by simp [Value.oneCell']) ?_
            rw [setRow_self _ _ _ _ _ HXF.out]
            go_wp2_with fail
            exact ret_row HXF.out rfl Tryd.underlying25 rfl (infoTM' _ rfl) rfl rfl ⟨rfl, HFF.out.1, HFF.out.2⟩
      · exact absurd ⟨_, rfl⟩ hf
    · exact absurd ⟨_, rfl⟩ hf
  · exact absurd ⟨_, rfl⟩ hf
end Go.Proofs.YtaomakhhkjflaaaDoor
