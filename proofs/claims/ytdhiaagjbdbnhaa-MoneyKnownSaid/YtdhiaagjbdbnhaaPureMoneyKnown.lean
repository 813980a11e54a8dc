import Derived.Test.YtdhiaagjbdbnhaaPZKnownx1
namespace Go.Proofs.Ytdhiaagjbdbnhaa.Pure
open Go.RowKit Go.Proofs.Ytdhiaagjbdbnhaa.PZKnown Go.Proofs.YtdhiaagjbdbnhaaW.PrintWords Go.Proofs.YtdhiaagjbdbnhaaW.PrintLast
theorem MoneyKnown : quitrentlaw10_MoneyKnown.Pure := by
  unfold quitrentlaw10_MoneyKnown.Pure
  decide +kernel
end Go.Proofs.Ytdhiaagjbdbnhaa.Pure
