import Derived.Test.YtifacclmfjmilaaPZx3
import Derived.Test.YtifacclmfjmilaaPRef
namespace Go.Proofs.Ytifacclmfjmilaa.Pure
open Go.RowKit Go.Proofs.Ytifacclmfjmilaa.PZ Go.Proofs.YtifacclmfjmilaaW.PrintWords Go.Proofs.YtifacclmfjmilaaW.PrintLast Go.Proofs.Ytifacclmfjmilaa.Ext
theorem PlanPuts_f (a0 a1 a2 a3 a4 a5 : Int) (ls : List S55) (h0 : 0 ≤ a0) (h1 : a0 < 4294967296) : quitrentlaw13_PlanPuts.f 300 a0 a1 a2 a3 a4 a5 ls = some true := by
  unfold quitrentlaw13_PlanPuts.f
  by_cases h20 : (ls.length : Int) > 20
  · rw [if_pos h20]
  · rw [if_neg h20, rcheck a0 a1 a2 a3 a4 a5 ls h0]
    obtain ⟨b, hb⟩ : ∃ b, pchk a0 a1 a2 a3 a4 a5 ls = b := ⟨_, rfl⟩
    have hc : plan_Check.f a0 a1 a2 a3 a4 a5 ls = some b := by unfold plan_Check.f; rw [hb]
    cases b with
    | true =>
      have hp : plan_Put.f a0 a1 a2 a3 a4 a5 ls = some (bytes8 (planNums a0 a1 a2 a3 a4 a5 ls), 0) := by unfold plan_Put.f pput; rw [if_pos hb]
      rw [hp, hc, hb, rput a0 a1 a2 a3 a4 a5 ls (by omega) h0 h1 300 (by omega)]
      simp [quitrentlaw13_goes.f]
    | false =>
      have hp : plan_Put.f a0 a1 a2 a3 a4 a5 ls = some ([], 1) := by unfold plan_Put.f pput; rw [if_neg (by rw [hb]; decide)]
      rw [hp, hc, hb]
      simp [quitrentlaw13_goes.f]
end Go.Proofs.Ytifacclmfjmilaa.Pure
