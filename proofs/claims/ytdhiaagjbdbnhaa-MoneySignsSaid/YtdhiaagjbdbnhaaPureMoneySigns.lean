import Derived.Test.YtdhiaagjbdbnhaaPZSignsx1
import Derived.Test.YtdhiaagjbdbnhaaMath
namespace Go.Proofs.Ytdhiaagjbdbnhaa.Pure
open Go.RowKit Go.Proofs.Ytdhiaagjbdbnhaa.PZSigns Go.Proofs.Ytdhiaagjbdbnhaa.Ext Go.Proofs.YtdhiaagjbdbnhaaW.PrintWords Go.Proofs.YtdhiaagjbdbnhaaW.PrintLast
theorem MoneySigns : quitrentlaw10_MoneySigns.Pure := by
  intro a b ha hb
  have ia := wf_i64 a ha
  have ib := wf_i64 b hb
  refine ⟨1, ?_⟩
  simp only [quitrentlaw10_MoneySigns.f, Mul_small a b ia ib, Mul_small b a ib ia, Mul_small a 1 ia (by decide), Mul_small a 0 ia (by decide), Option.bind_some, Int.mul_comm b a, Int.mul_one, Int.mul_zero, small_yes a ia, small_yes 0 (show I64 0 by decide), if_true]
  rw [show ((0 : Int) != 0) = false by decide]
  simp only [quitrentlaw10_MoneySigns.j0, goes_true, Option.bind_some]
  rw [if_neg (by decide)]
  by_cases hm : b = -9223372036854775808
  · rw [if_pos hm]
  · rw [if_neg hm]
    have inb : I64 (-b) := by unfold I64 at *; omega
    rw [wrap64_same _ inb, Mul_small a (-b) ia inb, Int.mul_neg]
    simp only [Option.bind_some]
    generalize a * b = p
    by_cases h1 : I64 p
    · by_cases h2 : I64 (-p)
      · rw [small_yes _ h1, small_yes _ h2]
        rw [show - -p = p by omega, wrap64_same _ h1]
        simp
      · rw [small_yes _ h1, small_no _ h2]
        have : p = -9223372036854775808 := by unfold I64 at *; omega
        subst this
        simp
    · by_cases h2 : I64 (-p)
      · rw [small_no _ h1, small_yes _ h2]
        have : -p = -9223372036854775808 := by unfold I64 at *; omega
        rw [this]
        simp
      · rw [small_no _ h1, small_no _ h2]
        simp
end Go.Proofs.Ytdhiaagjbdbnhaa.Pure
