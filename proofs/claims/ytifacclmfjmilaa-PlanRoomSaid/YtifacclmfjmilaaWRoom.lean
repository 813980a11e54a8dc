/- PlanRoom over a plan that comes in. -/
import Derived.Test.YtifacclmfjmilaaOpenP
import Derived.Test.YtifacclmfjmilaaPurePlanRoom
namespace Go.Proofs.Ytifacclmfjmilaa.Ext
open Go.RowKit Go.ChangeShapes Go.WideShapes Go.Proofs.YtifacclmfjmilaaW.PrintWords Go.Proofs.YtifacclmfjmilaaW.PrintLast Go.Proofs.YtifacclmfjmilaaW.PrintMore Go.Proofs.Ytifacclmfjmilaa.PZ Go.Proofs.Ytifacclmfjmilaa.Pure
theorem PlanRoom.walk {H : Type} {enc : TypeId × Value → H} {W : World} {v : Value} {d : DataW H} {p : List MemPlace} {base : Nat} (free roll : Int) (hv : Value.okWide Try.prog W .any base 25 v)
    (h : DataW.Trod enc Try.prog W 0 (fun _ => true) true 25 v d p) (w1 : (Lit.int .i64 free).wf = true) (w2 : (Lit.int .i64 roll).wf = true) : Calls Try.prog 7 #[v, .int .i64 free, .int .i64 roll] W fun e w' => e = .returned (.bool true) ∧ Below W.heap.size W w' := by
  obtain ⟨a0, a1, a2, a3, a4, a5, A, c, L, rfl, h0, _, hc, _, hC⟩ := plan_come hv h
  exact quitrentlaw13_PlanRoom.calls 4 a0 a1 a2 a3 a4 a5 A c L free roll true W hC hc (PlanRoom_f a0 a1 a2 a3 a4 a5 L free roll (wf_i64 _ w1) (wf_i64 _ w2))
end Go.Proofs.Ytifacclmfjmilaa.Ext
