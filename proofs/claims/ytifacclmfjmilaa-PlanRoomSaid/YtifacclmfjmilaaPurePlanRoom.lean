import Derived.Test.YtifacclmfjmilaaPYx4
import Derived.Test.YtifacclmfjmilaaMath
namespace Go.Proofs.Ytifacclmfjmilaa.Pure
open Go.RowKit Go.Proofs.Ytifacclmfjmilaa.PZ Go.Proofs.YtifacclmfjmilaaW.PrintWords Go.Proofs.YtifacclmfjmilaaW.PrintLast Go.Proofs.YtifacclmfjmilaaW.PrintMore Go.Proofs.Ytifacclmfjmilaa.Ext
set_option maxHeartbeats 1000000 in
theorem PlanRoom_f (a0 a1 a2 a3 a4 a5 : Int) (ls : List S55) (free roll : Int) (hf : I64 free) (hr : I64 roll) : quitrentlaw13_PlanRoom.f 4 a0 a1 a2 a3 a4 a5 ls free roll = some true := by
  unfold I64 at hf hr
  obtain ⟨hf0, hf1⟩ := hf
  obtain ⟨hr0, hr1⟩ := hr
  obtain ⟨b, hb⟩ : ∃ b, pchk a0 a1 a2 a3 a4 a5 ls = b := ⟨_, rfl⟩
  have hck : plan_Check.f a0 a1 a2 a3 a4 a5 ls = some b := by unfold plan_Check.f; rw [hb]
  obtain ⟨c, hc⟩ : ∃ c, mx 0 (wrap64 (a2 - mx 0 free)) = c := ⟨_, rfl⟩
  have hca : plan_Carry.f a0 a1 a2 a3 a4 a5 ls free = some c := by unfold plan_Carry.f; rw [hc]
  have hg : quitrentlaw13_goes.f = some true := rfl
  unfold quitrentlaw13_PlanRoom.f
  rw [hca, hck]
  cases b with
  | false =>
    have hp : plan_Room.f a0 a1 a2 a3 a4 a5 ls roll = some (0, 1) := by unfold plan_Room.f proom; rw [hb, if_neg (by simp)]
    rw [hp]
    simp [quitrentlaw13_PlanRoom.j0, hg]
  | true =>
    have h2 := numsOk_of hb 1 (by decide)
    have h4 := numsOk_of hb 3 (by decide)
    have h2 : 0 ≤ a2 ∧ a2 ≤ 1099511627776 := h2
    have h4 : 0 ≤ a4 ∧ a4 ≤ 1099511627776 := h4
    by_cases hrr : 0 ≤ roll ∧ roll ≤ 1099511627776
    · have hp : ∀ x, 0 ≤ x → x ≤ 1099511627776 → plan_Room.f a0 a1 a2 a3 a4 a5 ls x = some (a2 + (if a4 < x then a4 else x), 0) := fun x hx hx2 => by unfold plan_Room.f proom; rw [hb, if_pos ⟨rfl, hx, hx2⟩]
      have htd : Int.tdiv roll 2 = roll / 2 := Int.tdiv_eq_ediv_of_nonneg hrr.1
      have hw1 : wrap64 (Int.tdiv roll 2) = roll / 2 := by rw [htd]; exact wrap_i _ (by omega) (by omega)
      have hw2 : wrap64 (a2 + a4) = a2 + a4 := wrap_i _ (by omega) (by omega)
      have hw3 : wrap64 (a2 + roll) = a2 + roll := wrap_i _ (by omega) (by omega)
      have hcv : (free ≤ 0 ∧ c = a2) ∨ (0 < free ∧ free ≤ a2 ∧ c = a2 - free) ∨ (0 < free ∧ a2 < free ∧ c = 0) := by
        rw [← hc]
        unfold mx
        by_cases h1 : 0 < free
        · rw [if_pos h1, wrap_i (a2 - free) (by omega) (by omega)]
          split <;> omega
        · rw [if_neg h1, wrap_i (a2 - 0) (by omega) (by omega)]
          split <;> omega
      have hw4 : 0 ≤ free → wrap64 (a2 - free) = a2 - free := fun h => wrap_i _ (by omega) (by omega)
      have hj1 : quitrentlaw13_PlanRoom.j1 3 roll (a2 + (if a4 < roll then a4 else roll)) 0 false a0 a1 a2 a3 a4 a5 ls = some true := by
        simp only [quitrentlaw13_PlanRoom.j1]
        rw [hw1, hp (roll / 2) (by omega) (by omega), hw2, hw3, hg]
        simp only [Option.bind_some]
        obtain ⟨M, hM⟩ : ∃ M, (if a4 < roll then a4 else roll) = M := ⟨_, rfl⟩
        obtain ⟨M2, hM2⟩ : ∃ M, (if a4 < roll / 2 then a4 else roll / 2) = M := ⟨_, rfl⟩
        have e1 : (a4 < roll ∧ M = a4) ∨ (roll ≤ a4 ∧ M = roll) := by rw [← hM]; split <;> omega
        have e2 : M2 ≤ M ∧ 0 ≤ M := by rw [← hM, ← hM2]; split <;> split <;> omega
        rw [hM, hM2]
        rw [if_neg (by decide)]
        simp only [if_true]
        rw [if_pos (by omega), if_pos (by omega), if_pos (by omega)]
        split
        · rfl
        · rw [if_pos (by omega)]
      rw [hp roll hrr.1 hrr.2]
      simp only [Option.bind_some]
      simp only [if_true]
      rw [if_neg (by omega), decide_eq_false (show ¬ roll > 1099511627776 by omega)]
      simp only [quitrentlaw13_PlanRoom.j0]
      rw [if_neg (by decide), if_neg (by omega), if_neg (by omega)]
      rcases hcv with ⟨k1, k2⟩ | ⟨k1, k2, k3⟩ | ⟨k1, k2, k3⟩
      · have hne : (c != a2) = false := by rw [k2]; simp
        by_cases h0 : free ≥ 0
        · rw [if_pos h0, if_pos (by omega), hw4 h0, if_pos (by omega), if_neg (by omega), if_neg (by omega), hj1]
        · rw [if_neg h0, if_neg (by omega), if_pos (by omega), hne, hj1]
      · rw [if_pos (show free ≥ 0 by omega), if_pos (by omega), hw4 (by omega), if_pos (by omega), if_neg (by omega), if_neg (by omega), hj1]
      · rw [if_pos (show free ≥ 0 by omega), if_neg (by omega), if_pos (by omega), if_pos (by omega), if_neg (by omega), hj1]
    · have hp : plan_Room.f a0 a1 a2 a3 a4 a5 ls roll = some (0, 1) := by unfold plan_Room.f proom; rw [if_neg (by omega)]
      rw [hp]
      simp only [Option.bind_some, if_true]
      by_cases h : roll < 0
      · rw [if_pos h]; simp [quitrentlaw13_PlanRoom.j0, hg]
      · rw [if_neg h, decide_eq_true (show roll > 1099511627776 by omega)]; simp [quitrentlaw13_PlanRoom.j0, hg]
end Go.Proofs.Ytifacclmfjmilaa.Pure
