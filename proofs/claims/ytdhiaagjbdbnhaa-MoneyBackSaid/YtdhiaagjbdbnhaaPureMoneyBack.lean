import Derived.Test.YtdhiaagjbdbnhaaPZBackx1
import Derived.Test.YtdhiaagjbdbnhaaMath
namespace Go.Proofs.Ytdhiaagjbdbnhaa.Pure
open Go.RowKit Go.Proofs.Ytdhiaagjbdbnhaa.PZBack Go.Proofs.Ytdhiaagjbdbnhaa.Ext Go.Proofs.YtdhiaagjbdbnhaaW.PrintWords Go.Proofs.YtdhiaagjbdbnhaaW.PrintLast
theorem MoneyBack : quitrentlaw10_MoneyBack.Pure := by
  intro a b d ha hb hd
  have ia := wf_i64 a ha
  have ib := wf_i64 b hb
  have id := wf_i64 d hd
  refine ⟨1, ?_⟩
  simp only [quitrentlaw10_MoneyBack.f, Part_part a b d ia ib id, Option.bind_some]
  by_cases hbad : a < 0 ∨ b < 0 ∨ d < 1
  · have e : Ext.part a b d = (0, 0, 1) := if_pos hbad
    have key : quitrentlaw10_MoneyBack.j0 1 a b d 0 0 1 true = some true := by
      simp only [quitrentlaw10_MoneyBack.j0, if_true, goes_true, Option.bind_some]
    rw [e]
    by_cases h1 : a < 0
    · rw [if_pos h1]; exact key
    · rw [if_neg h1]
      by_cases h2 : b < 0
      · rw [if_pos h2]; exact key
      · rw [if_neg h2]
        have h3 : decide (d < 1) = true := decide_eq_true (by omega)
        rw [h3]; exact key
  · have e : Ext.part a b d = if a * b / d < 9223372036854775808 then (a * b / d, a * b % d, 0) else (0, 0, 30) := if_neg hbad
    have h3 : decide (d < 1) = false := decide_eq_false (by omega)
    rw [if_neg (by omega), if_neg (by omega), h3]
    have hab : 0 ≤ a * b := Int.mul_nonneg (by omega) (by omega)
    have hq : 0 ≤ a * b / d := Int.ediv_nonneg hab (by omega)
    have hr := Int.emod_nonneg (a * b) (show d ≠ 0 by omega)
    have hr' := Int.emod_lt_of_pos (a * b) (show 0 < d by omega)
    have hle : a * b / d ≤ a * b := Int.ediv_le_self _ hab
    have hdiv : d * (a * b / d) + a * b % d = a * b := Int.mul_ediv_add_emod (a * b) d
    simp only [quitrentlaw10_MoneyBack.j0, Mul_small a b ia ib, Option.bind_some, goes_true]
    rw [if_neg (by decide)]
    by_cases hs : I64 (a * b)
    · rw [small_yes _ hs]
      have hlt : a * b / d < 9223372036854775808 := by unfold I64 at hs; omega
      rw [e, if_pos hlt]
      simp only [if_true]
      rw [if_neg (show ¬ d = 0 by omega), Int.tdiv_eq_ediv_of_nonneg hab, Int.tmod_eq_emod_of_nonneg hab, wrap64_same _ (by unfold I64 at *; omega), if_pos rfl, if_pos rfl]
    · rw [small_no _ hs]
      rw [if_neg (by decide)]
      by_cases hlt : a * b / d < 9223372036854775808
      · rw [e, if_pos hlt]
        simp only [if_true]
        rw [if_pos hr, if_pos hr', if_pos hq]
        rw [if_pos]
        rw [show IntKind.u64.wrap (a * b / d) = a * b / d by rw [IntKind.wrap_u64]; omega, show IntKind.u64.wrap d = d by rw [IntKind.wrap_u64]; unfold I64 at *; omega,
          show IntKind.u64.wrap (a * b % d) = a * b % d by rw [IntKind.wrap_u64]; unfold I64 at *; omega,
          show IntKind.u64.wrap a = a by rw [IntKind.wrap_u64]; unfold I64 at *; omega, show IntKind.u64.wrap b = b by rw [IntKind.wrap_u64]; unfold I64 at *; omega]
        rw [Int.mul_comm (a * b / d) d]
        generalize d * (a * b / d) = z at *
        generalize a * b % d = r at *
        generalize a * b = p at *
        simp only [IntKind.wrap_u64]
        omega
      · rw [e, if_neg hlt]
        simp
end Go.Proofs.Ytdhiaagjbdbnhaa.Pure
