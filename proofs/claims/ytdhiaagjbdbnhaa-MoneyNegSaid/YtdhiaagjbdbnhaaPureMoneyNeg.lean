import Derived.Test.YtdhiaagjbdbnhaaPZNegx1
import Derived.Test.YtdhiaagjbdbnhaaMath
namespace Go.Proofs.Ytdhiaagjbdbnhaa.Pure
open Go.RowKit Go.Proofs.Ytdhiaagjbdbnhaa.PZNeg Go.Proofs.Ytdhiaagjbdbnhaa.Ext Go.Proofs.YtdhiaagjbdbnhaaW.PrintWords Go.Proofs.YtdhiaagjbdbnhaaW.PrintLast
theorem MoneyNeg : quitrentlaw10_MoneyNeg.Pure := by
  intro a b ha hb
  have ia := wf_i64 a ha
  have ib := wf_i64 b hb
  refine ⟨1, ?_⟩
  simp only [quitrentlaw10_MoneyNeg.f, Add_small a b ia ib, Option.bind_some, goes_true]
  by_cases hm : b = -9223372036854775808
  · rw [if_pos hm]
  · rw [if_neg hm]
    have inb : I64 (-b) := by unfold I64 at *; omega
    rw [wrap64_same _ inb, Add_small b (-b) ib inb, show b + -b = 0 by omega, small_yes 0 (by decide)]
    simp only [Option.bind_some, if_true, quitrentlaw10_MoneyNeg.j0, goes_true]
    by_cases hs : I64 (a + b)
    · rw [small_yes _ hs, wrap64_same _ hs]
      simp only [if_true, wrap64_same _ inb, Add_small (a + b) (-b) hs inb, show a + b + -b = a by omega, small_yes a ia, Option.bind_some]
      simp
    · rw [small_no _ hs]
      have h2 : (decide (a > 0) == decide (b > 0)) = true := by
        have : (a > 0) = (b > 0) := propext (by unfold I64 at *; omega)
        simp [this]
      simp [h2]
end Go.Proofs.Ytdhiaagjbdbnhaa.Pure
