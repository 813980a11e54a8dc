import Derived.Test.YtifacclmfjmilaaPYx3
import Derived.Test.YtifacclmfjmilaaPMath
namespace Go.Proofs.Ytifacclmfjmilaa.Pure
open Go.RowKit Go.Proofs.Ytifacclmfjmilaa.PZ Go.Proofs.YtifacclmfjmilaaW.PrintWords Go.Proofs.YtifacclmfjmilaaW.PrintLast Go.Proofs.Ytifacclmfjmilaa.Ext
theorem bytes_wf {l : List Int} (h : ∀ x ∈ l, (Lit.int .u8 x).wf = true) : ∀ x ∈ l, IsByte x := fun x hx => by
  have h := h x hx
  have h1 : IntKind.u8.min = 0 := rfl
  have h2 : IntKind.u8.max = 255 := rfl
  simp only [Lit.wf, Bool.and_eq_true, decide_eq_true_eq, h1, h2] at h
  unfold IsByte; omega
theorem same_zero (k : Nat) : quitrentref13_Same.f (k + 2) 0 0 0 0 0 0 ([] : List S55) 0 0 0 0 0 0 [] = some true := rfl
theorem PlanReads : quitrentlaw13_PlanReads.Pure := by
  intro l hm hl hw
  have hb := bytes_wf hw
  have hg : plan_Get.f l = some (pget l) := by unfold plan_Get.f; rw [if_pos ⟨bytesOk_of hb, by unfold maxLen at hm; omega⟩]
  refine ⟨5, ?_⟩
  unfold quitrentlaw13_PlanReads.f
  rw [hg, Option.bind_some]
  rcases pget_sound l hb with h | ⟨a0, a1, a2, a3, a4, a5, ls, h, h0, hk, hbt⟩
  · rw [h]
    simp only [quitrentlaw13_PlanReads.j0]
    rw [if_neg (by decide)]
    simp only [if_true]
    split
    · rfl
    · rw [same_zero 2]; rfl
  · rw [h]
    simp only [quitrentlaw13_PlanReads.j0]
    simp only [if_true]
    by_cases h500 : (l.length : Int) > 500
    · rw [if_pos (decide_eq_true h500), if_pos h500]; rfl
    · rw [if_neg (by simpa using h500)]
      have hp : plan_Put.f a0 a1 a2 a3 a4 a5 ls = some (l, 0) := by unfold plan_Put.f pput; rw [if_pos hk, hbt]
      have hc : plan_Check.f a0 a1 a2 a3 a4 a5 ls = some true := by unfold plan_Check.f; rw [hk]
      rw [hp, hc]
      simp [quitrentlaw13_goes.f]
end Go.Proofs.Ytifacclmfjmilaa.Pure
