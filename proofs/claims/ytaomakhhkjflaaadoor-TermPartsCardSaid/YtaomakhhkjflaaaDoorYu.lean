/- strconv.ParseUint at decimal digits. No conditions. -/
import Derived.Test.YtaomakhhkjflaaaDoorYp
import Derived.Test.YtaomakhhkjflaaaDoorK
import Derived.Test.YtaomakhhkjflaaaDoorSh
import Derived.Lib.ConvBytes
namespace Go.Proofs.YtaomakhhkjflaaaDoor
open Go.ChangeShapes Go.WideShapes Go.ChangeAt Go.RowKit Go.Shelf
set_option linter.unusedVariables false
theorem dec_len_le (u : Nat) (hu : u ≤ 576460752303423488) : (Lib.decDigits u).length ≤ 1000 := by
  have key : ∀ k u : Nat, u < 10 ^ k → (Lib.decDigits u).length ≤ k + 1 := by
    intro k
    induction k with
    | zero =>
      intro u h
      rw [Lib.decDigits, dif_pos (by omega)]
      simp
    | succ k ih =>
      intro u h
      rw [Lib.decDigits]
      split
      · simp
      · rw [List.length_append]
        have := ih (u / 10) (by rw [Nat.pow_succ] at h; omega)
        simp only [List.length_singleton]
        omega
  have := key 19 u (by omega)
  omega
theorem parseuint_any (u : Nat) (hu : u ≤ 576460752303423488) (w : World) : Calls Tryd.prog 55 #[.string ⟨(Lib.decDigits u).toArray⟩, .int .i64 10, .int .i64 64] w fun e w' => e = .returned (.tuple #[.int .u64 u, .nilIface]) ∧ Below w.heap.size w w' := by
  have hl := dec_len_le u hu
  have h := Any.strconv_ParseUint_10_at64_ok Tryd.laysPu14 ⟨(Lib.decDigits u).toArray⟩ (by simp [ByteArray.size]; omega) u (by
    unfold Lib.parseUintB
    rw [if_neg (by simpa using dec_ne u)]
    exact parse_dec _ u (by omega) (by omega)) w
  refine h.mono ?_
  rintro e w' ⟨rfl, (rfl | rfl)⟩
  · exact ⟨rfl, Below.refl _ _⟩
  · exact ⟨rfl, Lib.bytesWorld_below _ _ _⟩
end Go.Proofs.YtaomakhhkjflaaaDoor
