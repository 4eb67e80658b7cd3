/- stop: the law StopLeft at any argument that can be read. No further condition. -/
import Derived.Test.YtjepiimggaiejaaPi
namespace Go.Proofs.Ytjepiimggaiejaa
open Go.ChangeShapes Go.WideShapes Go.ChangeAt Go.RowKit
theorem left_row {H : Type} {enc : TypeId × Value → H} (W : World) {base : Nat} {v0 : Value} {d0 : DataW H} {p0 : List MemPlace} (hv0 : Value.okWide Try.prog W .any base 22 v0) (h0 : DataW.Trod enc Try.prog W 0 (fun _ => true) true 22 v0 d0 p0) :
    Calls Try.prog 3 #[v0] W (IsPost W true) := by
  obtain ⟨ao, n, cap, rfl, hn, R, rfl, h1, h2, h3⟩ := recs_of hv0 h0
  exact left_law W ao cap R hn h1 h2 h3
end Go.Proofs.Ytjepiimggaiejaa
