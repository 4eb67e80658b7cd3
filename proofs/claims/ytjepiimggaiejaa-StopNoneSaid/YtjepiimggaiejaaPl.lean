/- stop: the law StopNone at any arguments that can be read. No further condition. -/
import Derived.Test.YtjepiimggaiejaaPk
namespace Go.Proofs.Ytjepiimggaiejaa
open Go.ChangeShapes Go.WideShapes Go.ChangeAt Go.RowKit
theorem none_row {H : Type} {enc : TypeId × Value → H} (W : World) {base : Nat} {v0 v1 : Value} {d0 d1 : DataW H} {p0 p1 : List MemPlace} (hv0 : Value.okWide Try.prog W .any base 22 v0) (h0 : DataW.Trod enc Try.prog W 0 (fun _ => true) true 22 v0 d0 p0)
    (hv1 : Value.okWide Try.prog W .any base 50 v1) (h1 : DataW.Trod enc Try.prog W 0 (fun _ => true) true 50 v1 d1 p1) :
    Calls Try.prog 4 #[v0, v1] W (IsPost W true) := by
  obtain ⟨ao, n, cap, rfl, hn, R, rfl, -, h2, h3⟩ := recs_of hv0 h0
  obtain ⟨f, now, self, M, cl, so, got, hv, hI⟩ := in_of hv1 h1
  exact none_law W ao cap f R v1 now self cl hv M so got hn h2 h3 hI
end Go.Proofs.Ytjepiimggaiejaa
