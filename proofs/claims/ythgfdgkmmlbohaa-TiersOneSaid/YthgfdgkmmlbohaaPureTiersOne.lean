/- TiersOne, as a plain statement, proved. -/
import Derived.Test.YthgfdgkmmlbohaaPureA
namespace Go.Proofs.Ythgfdgkmmlbohaa.Pure
open Go.RowKit Go.Proofs.Ythgfdgkmmlbohaa.PZ Go.Proofs.Ythgfdgkmmlbohaa.Ext Go.Proofs.YthgfdgkmmlbohaaW.PrintWords Go.Proofs.YthgfdgkmmlbohaaW.PrintLast
theorem one_chk {p at_ : Int} (h : chk [⟨at_, p⟩, ⟨0, p⟩] = true) : 0 < at_ ∧ chk [⟨0, p⟩] = true := by
  simp [chk, chkFrom, okP] at h ⊢
  omega
theorem cost_one {p n : Int} (hn : 0 ≤ n) : cost [⟨0, p⟩] n = p * n := by
  have e : spanOf n 0 ⟨0, p⟩ = n := by
    unfold spanOf endOf
    dsimp only
    rw [if_neg (show ¬ (0 : Int) < 0 by omega)]
    split <;> omega
  unfold cost
  simp only [spansFrom, tot, e, Int.add_zero]
theorem cost_two {p n a : Int} (hn : 0 ≤ n) (ha : 0 < a) : cost [⟨a, p⟩, ⟨0, p⟩] n = p * n := by
  have e1 : wasOf 0 ⟨a, p⟩ = a := by unfold wasOf; dsimp only; rw [if_pos ha]
  have e : spanOf n 0 ⟨a, p⟩ + spanOf n a ⟨0, p⟩ = n := by
    unfold spanOf endOf
    dsimp only
    rw [if_pos ha, if_neg (show ¬ (0 : Int) < 0 by omega)]
    by_cases c : a < n
    · rw [if_pos c, if_pos (by omega), if_pos (by omega)]; omega
    · rw [if_neg c, if_neg (show ¬ 0 < n - a by omega)]
      split <;> omega
  unfold cost
  simp only [spansFrom, tot, e1, Int.add_zero]
  rw [← Int.mul_add, e]
theorem TiersOne : quitrentlaw11_TiersOne.Pure := by
  intro p a n hp ha hn
  have ip := wf_i64 p hp
  have ia := wf_i64 a ha
  have iN := wf_i64 n hn
  unfold quitrentlaw11_TiersOne.f
  rw [price_f _ _ iN]
  simp only [Option.bind_some, tiers_Check.f]
  rw [price_f _ _ iN, Option.bind_some]
  by_cases hk : chk [⟨a, p⟩, ⟨0, p⟩] = true
  · obtain ⟨h1, h2⟩ := one_chk hk
    rw [if_pos hk, Mul_small p n ip iN, Option.bind_some]
    by_cases h0 : n < 0
    · have e1 : priceL [⟨0, p⟩] n = (0, 1) := by unfold priceL; rw [if_neg (by omega)]
      have e2 : priceL [⟨a, p⟩, ⟨0, p⟩] n = (0, 1) := by unfold priceL; rw [if_neg (by omega)]
      rw [if_pos h0, e1, e2]
      simp [goes_true]
    · rw [if_neg h0, price_cost hk (by omega), price_cost h2 (by omega), cost_one (by omega), cost_two (by omega) h1]
      have hc := cost_nonneg h2 n
      rw [cost_one (by omega)] at hc
      generalize p * n = T at hc ⊢
      unfold priceT
      by_cases c : T < 9223372036854775808
      · rw [if_pos c, small_yes T (by unfold I64; omega)]
        simp [goes_true]
      · rw [if_neg c, small_no T (by unfold I64; omega)]
        simp [goes_true]
  · have e2 : priceL [⟨a, p⟩, ⟨0, p⟩] n = (0, 1) := by unfold priceL; rw [if_neg (fun h => hk h.1)]
    rw [if_neg hk, e2]
    simp [goes_true]
end Go.Proofs.Ythgfdgkmmlbohaa.Pure
