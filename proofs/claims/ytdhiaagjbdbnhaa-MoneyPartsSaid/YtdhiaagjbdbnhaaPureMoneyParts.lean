import Derived.Test.YtdhiaagjbdbnhaaPZPartsx1
import Derived.Test.YtdhiaagjbdbnhaaMath
namespace Go.Proofs.Ytdhiaagjbdbnhaa.Pure
open Go.RowKit Go.Proofs.Ytdhiaagjbdbnhaa.PZParts Go.Proofs.Ytdhiaagjbdbnhaa.Ext Go.Proofs.YtdhiaagjbdbnhaaW.PrintWords Go.Proofs.YtdhiaagjbdbnhaaW.PrintLast
theorem MoneyParts : quitrentlaw10_MoneyParts.Pure := by
  intro a b d ha hb hd
  have ia := wf_i64 a ha
  have ib := wf_i64 b hb
  have id := wf_i64 d hd
  have e2 : quitrentref10_Part.f a b d = some (Go.Proofs.Ytdhiaagjbdbnhaa.Ext.part a b d) := Part_part a b d ia ib id
  first
    | refine ⟨1, ?_⟩
    | skip
  simp only [quitrentlaw10_MoneyParts.f, Part_part a b d ia ib id, e2, Option.bind_some, goes_true]
  simp
end Go.Proofs.Ytdhiaagjbdbnhaa.Pure
