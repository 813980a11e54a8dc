/- TiersKnown, as a plain statement, proved. -/
import Derived.Test.YthgfdgkmmlbohaaPZx4
namespace Go.Proofs.Ythgfdgkmmlbohaa.Pure
open Go.RowKit Go.Proofs.Ythgfdgkmmlbohaa.PZ Go.Proofs.Ythgfdgkmmlbohaa.Ext Go.Proofs.YthgfdgkmmlbohaaW.PrintWords Go.Proofs.YthgfdgkmmlbohaaW.PrintLast
theorem TiersKnown : quitrentlaw11_TiersKnown.Pure := ⟨11, by kernel_rfl⟩
end Go.Proofs.Ythgfdgkmmlbohaa.Pure
