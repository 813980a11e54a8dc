/- PlanPuts over a plan that comes in. -/
import Derived.Test.YtifacclmfjmilaaOpenP
import Derived.Test.YtifacclmfjmilaaPurePlanPuts
namespace Go.Proofs.Ytifacclmfjmilaa.Ext
open Go.RowKit Go.ChangeShapes Go.WideShapes Go.Proofs.YtifacclmfjmilaaW.PrintWords Go.Proofs.YtifacclmfjmilaaW.PrintLast Go.Proofs.YtifacclmfjmilaaW.PrintMore Go.Proofs.Ytifacclmfjmilaa.PZ Go.Proofs.Ytifacclmfjmilaa.Pure
theorem PlanPuts.walk {H : Type} {enc : TypeId × Value → H} {W : World} {v : Value} {d : DataW H} {p : List MemPlace} {base : Nat} (hv : Value.okWide Try.prog W .any base 25 v)
    (h : DataW.Trod enc Try.prog W 0 (fun _ => true) true 25 v d p) : Calls Try.prog 3 #[v] W fun e w' => e = .returned (.bool true) ∧ Below W.heap.size W w' := by
  obtain ⟨a0, a1, a2, a3, a4, a5, A, c, L, rfl, h0, _, hc, _, hC⟩ := plan_come hv h
  exact quitrentlaw13_PlanPuts.calls 300 a0 a1 a2 a3 a4 a5 A c L true W hC hc (PlanPuts_f a0 a1 a2 a3 a4 a5 L h0.1 h0.2)
end Go.Proofs.Ytifacclmfjmilaa.Ext
