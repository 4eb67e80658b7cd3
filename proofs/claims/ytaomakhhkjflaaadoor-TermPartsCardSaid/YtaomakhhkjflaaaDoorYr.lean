/- what is left of a text. In plain Lean. No conditions. -/
import Derived.WalkKit
namespace Go.Proofs.YtaomakhhkjflaaaDoor
set_option linter.unusedVariables false
def Rest (s : ByteArray) (i : Nat) (r : List UInt8) : Prop := i ≤ s.size ∧ s.data.toList.drop i = r
theorem Rest.next {s : ByteArray} {i : Nat} {c : UInt8} {r : List UInt8} (h : Rest s i (c :: r)) : i < s.size ∧ s.data.toList[i]? = some c ∧ Rest s (i + 1) r := by
  obtain ⟨h1, h2⟩ := h
  have hl : (s.data.toList.drop i).length = r.length + 1 := by rw [h2]; rfl
  have hsz : s.data.toList.length = s.size := Array.length_toList
  rw [List.length_drop, hsz] at hl
  have hi : i < s.size := by omega
  refine ⟨hi, ?_, by omega, ?_⟩
  · have := congrArg List.head? h2
    rw [List.head?_drop] at this
    simpa using this
  · have := congrArg List.tail h2
    rw [List.tail_drop] at this
    simpa using this
theorem Rest.nil {s : ByteArray} {i : Nat} (h : Rest s i []) : i = s.size := by
  obtain ⟨h1, h2⟩ := h
  have hsz : s.data.toList.length = s.size := Array.length_toList
  have := List.drop_eq_nil_iff.1 h2
  omega
theorem bytes_ext {a b : ByteArray} (h : a.data.toList = b.data.toList) : a = b := by
  cases a
  cases b
  congr 1
  exact Array.toList_inj.1 h
theorem ext_list (s : ByteArray) (i j : Nat) : (s.extract i j).data.toList = (s.data.toList.drop i).take (j - i) := by
  rw [ByteArray.data_extract, Array.toList_extract]
theorem Rest.app {s : ByteArray} {i : Nat} {a r : List UInt8} (h : Rest s i (a ++ r)) : i + a.length ≤ s.size ∧ Rest s (i + a.length) r ∧ s.extract i (i + a.length) = ⟨a.toArray⟩ := by
  obtain ⟨h1, h2⟩ := h
  have hsz : s.data.toList.length = s.size := Array.length_toList
  have hl : (s.data.toList.drop i).length = a.length + r.length := by rw [h2]; simp
  rw [List.length_drop, hsz] at hl
  refine ⟨by omega, ⟨by omega, ?_⟩, bytes_ext ?_⟩
  · rw [← List.drop_drop, h2]
    simp
  · rw [ext_list, h2, Nat.add_sub_cancel_left]
    simp
/-- what a test for a word comes to -/
theorem Rest.see {s : ByteArray} {i : Nat} {r : List UInt8} (h : Rest s i r) (w : List UInt8) (hw : i + w.length ≤ s.size) : s.extract i (i + w.length) = ⟨w.toArray⟩ ↔ w <+: r := by
  obtain ⟨h1, h2⟩ := h
  constructor
  · intro e
    have := congrArg (fun x => x.data.toList) e
    simp only at this
    rw [ext_list, h2, Nat.add_sub_cancel_left] at this
    exact ⟨r.drop w.length, by rw [← congrArg (· ++ r.drop w.length) this]; simp only [List.take_append_drop]⟩
  · rintro ⟨r', rfl⟩
    exact (Rest.app ⟨h1, h2⟩).2.2
theorem Rest.short {s : ByteArray} {i : Nat} {r : List UInt8} (h : Rest s i r) {w : List UInt8} (hw : ¬ i + w.length ≤ s.size) : ¬ w <+: r := by
  rintro ⟨r', rfl⟩
  exact hw (Rest.app h).1
end Go.Proofs.YtaomakhhkjflaaaDoor
