/- EntryKnown: computed. -/
import Derived.Test.YtdfmganmchmbjaaPZx4
namespace Go.Proofs.Ytdfmganmchmbjaa.Pure
open Go.RowKit Go.Proofs.Ytdfmganmchmbjaa.PZ Go.Proofs.YtdfmganmchmbjaaW.PrintWords Go.Proofs.YtdfmganmchmbjaaW.PrintLast
set_option maxRecDepth 100000 in
theorem EntryKnown : quitrentlaw14_EntryKnown.Pure := ⟨60, by kernel_rfl⟩
end Go.Proofs.Ytdfmganmchmbjaa.Pure
