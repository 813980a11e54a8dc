/- The reference's Get says what the program's says. -/
import Derived.Test.YtpadajkdpldliaaGate1
import Derived.Test.YtpadajkdpldliaaBeMath
namespace Go.Proofs.Ytpadajkdpldliaa.Ext
open Go.RowKit Go.Proofs.YtpadajkdpldliaaW.PrintWords Go.Proofs.YtpadajkdpldliaaW.PrintLast Go.Proofs.YtpadajkdpldliaaW.PrintMore Go.Proofs.YtpadajkdpldliaaW.Hand
set_option linter.unusedVariables false
/-- What the reference's Get answers. -/
def rget (l : List Int) : Option (Int × List Int) := if l.length < 12 then none else if lett (beVal (l.take 8)) (l.drop 12) = l then some (beVal (l.take 8), l.drop 12) else none
theorem beN_inj4 (a b : Int) (h : beN 4 a = beN 4 b) (ha : 0 ≤ a) (ha2 : a < 4294967296) (hb : 0 ≤ b) (hb2 : b < 4294967296) : a = b := by
  have e : (256 : Int) ^ 4 = 4294967296 := by decide
  have h1 := beVal_beN_lt 4 a ha (by omega)
  have h2 := beVal_beN_lt 4 b hb (by omega)
  rw [h] at h1
  rw [← h1, h2]
theorem gGet_rget (l : List Int) (h : ∀ x ∈ l, IsByte x) (hm : l.length ≤ 1000000) : gGet l = rget l := by
  have hb : ∀ xs : List Int, (⟨xs, true⟩ : Rs).done ≠ 0 := fun xs => by rw [bad_done]; decide
  have ha8 : ∀ c ∈ l.take 8, IsByte c := fun c hc => h c (List.mem_of_mem_take hc)
  obtain ⟨A, hA⟩ : ∃ A, beVal (l.take 8) = A := ⟨_, rfl⟩
  by_cases h8 : l.length < 8
  · unfold rget
    rw [if_pos (by omega)]
    unfold gGet
    simp only [short_uint l h8, bad_text]
    rw [if_neg (hb _)]
  have e8 : l = beN 8 A ++ l.drop 8 := by
    have := beN_beVal (l.take 8) ha8
    rw [List.length_take, Nat.min_eq_left (by omega), hA] at this
    rw [this, List.take_append_drop]
  have hA2 : 0 ≤ A ∧ A < 18446744073709551616 := by
    have := beVal_lt (l.take 8) ha8
    rw [hA, List.length_take, Nat.min_eq_left (by omega)] at this
    have e : (256 : Int) ^ 8 = 18446744073709551616 := by decide
    omega
  by_cases h12 : l.length < 12
  · unfold rget
    rw [if_pos h12]
    unfold gGet
    rw [e8, uint_app A _ hA2.1 hA2.2]
    simp only [short_text (l.drop 8) (by rw [List.length_drop]; omega)]
    rw [if_neg (hb _)]
  have hb4 : ∀ c ∈ (l.drop 8).take 4, IsByte c := fun c hc => h c (List.mem_of_mem_drop (List.mem_of_mem_take hc))
  obtain ⟨N, hN⟩ : ∃ N : Nat, beVal ((l.drop 8).take 4) = (N : Int) := by
    have := (beVal_lt _ hb4).1
    exact ⟨(beVal ((l.drop 8).take 4)).toNat, by omega⟩
  have hN2 : N < 4294967296 := by
    have := (beVal_lt _ hb4).2
    rw [hN, List.length_take, List.length_drop, Nat.min_eq_left (by omega)] at this
    have e : (256 : Int) ^ 4 = 4294967296 := by decide
    omega
  obtain ⟨c, hc⟩ : ∃ c, l.drop 12 = c := ⟨_, rfl⟩
  have e4 : l.drop 8 = beN 4 (N : Int) ++ c := by
    have := beN_beVal _ hb4
    rw [List.length_take, List.length_drop, Nat.min_eq_left (by omega), hN] at this
    rw [this, ← hc, show l.drop 12 = (l.drop 8).drop 4 from by rw [List.drop_drop], List.take_append_drop]
  have hcl : c.length ≤ 1000000 := by rw [← hc, List.length_drop]; omega
  have el : l = beN 8 A ++ (beN 4 (N : Int) ++ c) := by rw [← e4]; exact e8
  have er : rget l = if c.length = N then some (A, c) else none := by
    unfold rget
    rw [if_neg h12, hA, hc]
    by_cases hcn : c.length = N
    · rw [if_pos hcn, if_pos]
      unfold lett
      rw [hcn]
      exact el.symm
    · rw [if_neg hcn, if_neg]
      intro he
      unfold lett at he
      rw [el] at he
      have h1 := List.append_cancel_right (List.append_cancel_left he)
      exact hcn (by have := beN_inj4 _ _ h1 (by omega) (by omega) (by omega) (by omega); omega)
  rw [er]
  unfold gGet
  rw [el, uint_app A _ hA2.1 hA2.2]
  by_cases hlt : c.length < N
  · simp only [short_text2 N c hN2 hlt]
    rw [if_neg (hb _), if_neg (by omega)]
  · have e5 : (⟨beN 4 (N : Int) ++ c, false⟩ : Rs).text = (c.take N, ⟨c.drop N, false⟩) := by
      have h2 : (c.take N).length = N := by rw [List.length_take]; omega
      have := text_app (c.take N) (c.drop N) (by rw [h2]; exact hN2)
      rw [h2, List.take_append_drop] at this
      exact this
    simp only [e5]
    by_cases hcn : c.length = N
    · rw [if_pos hcn, List.drop_of_length_le (by omega), List.take_of_length_le (by omega)]
      rfl
    · rw [if_neg hcn, if_neg]
      obtain ⟨x, xs, hx⟩ : ∃ x xs, c.drop N = x :: xs := by
        cases hd : c.drop N with
        | nil => have := congrArg List.length hd; rw [List.length_drop] at this; simp at this; omega
        | cons x xs => exact ⟨x, xs, rfl⟩
      rw [hx]
      unfold Rs.done
      rw [if_pos (.inr (by simp))]
      decide
end Go.Proofs.Ytpadajkdpldliaa.Ext
