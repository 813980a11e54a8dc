import Derived.Test.YtifacclmfjmilaaPYx5
namespace Go.Proofs.Ytifacclmfjmilaa.Pure
open Go.RowKit Go.Proofs.Ytifacclmfjmilaa.PZ Go.Proofs.YtifacclmfjmilaaW.PrintWords Go.Proofs.YtifacclmfjmilaaW.PrintLast
theorem PlanKnown : quitrentlaw13_PlanKnown.Pure := ⟨30, by kernel_rfl⟩
end Go.Proofs.Ytifacclmfjmilaa.Pure
