import Derived.Test.YtdhiaagjbdbnhaaPZOrderx1
import Derived.Test.YtdhiaagjbdbnhaaMath
namespace Go.Proofs.Ytdhiaagjbdbnhaa.Pure
open Go.RowKit Go.Proofs.Ytdhiaagjbdbnhaa.PZOrder Go.Proofs.Ytdhiaagjbdbnhaa.Ext Go.Proofs.YtdhiaagjbdbnhaaW.PrintWords Go.Proofs.YtdhiaagjbdbnhaaW.PrintLast
theorem Sum_small (l : List Int) (h : ∀ x ∈ l, I64 x) (hl : l.length ≤ 9223372036854775807) : money_Sum.f l = some (small l.sum) := if_pos ⟨h, hl⟩
theorem MoneyOrder : quitrentlaw10_MoneyOrder.Pure := by
  intro l by_ h1 h2 hl hb
  have il : ∀ x ∈ l, I64 x := fun x hx => wf_i64 x (hl x hx)
  refine ⟨3, ?_⟩
  unfold quitrentlaw10_MoneyOrder.f
  by_cases h100 : (l.length : Int) > 100
  · rw [if_pos h100]
    simp only [quitrentlaw10_MoneyOrder.j0, if_true]
    rw [if_neg (by omega)]
  · rw [if_neg h100]
    by_cases h0 : (l.length : Int) = 0
    · rw [h0]
      simp only [show ((0 : Int) == 0) = true by decide, quitrentlaw10_MoneyOrder.j0, if_true, h0, goes_true, Option.bind_some]
    · rw [show ((l.length : Int) == 0) = false from beq_eq_false_iff_ne.mpr h0]
      simp only [quitrentlaw10_MoneyOrder.j0, Option.bind_some, List.nil_append, List.length_nil]
      rw [if_neg (by decide), if_neg h0]
      have hb0 : 0 ≤ wrap64 by_ := by
        have i1 : IntKind.u8.min = 0 := rfl
        have i2 : IntKind.u8.max = 255 := rfl
        simp only [Lit.wf, Bool.and_eq_true, decide_eq_true_eq, i1, i2] at hb
        unfold wrap64; omega
      have hk1 : 0 ≤ Int.tmod (wrap64 by_) (l.length : Int) := by rw [Int.tmod_eq_emod_of_nonneg hb0]; exact Int.emod_nonneg _ h0
      have hk2 : Int.tmod (wrap64 by_) (l.length : Int) < (l.length : Int) := by rw [Int.tmod_eq_emod_of_nonneg hb0]; exact Int.emod_lt_of_pos _ (by omega)
      generalize Int.tmod (wrap64 by_) (l.length : Int) = k at *
      obtain ⟨n, rfl⟩ := Int.eq_ofNat_of_zero_le hk1
      simp only [Int.toNat_natCast]
      have len1 : (l.drop n).length = l.length - n := List.length_drop
      have len2 : (l.take n).length = n := by rw [List.length_take]; omega
      rw [if_pos hk1, if_pos (by omega), if_pos (by omega), if_pos (by omega)]
      have it : ∀ x ∈ l.take n, I64 x := fun x hx => il x (List.mem_of_mem_take hx)
      have id : ∀ x ∈ l.drop n, I64 x := fun x hx => il x (List.mem_of_mem_drop hx)
      have hsum : (l.take n).sum + (l.drop n).sum = l.sum := by rw [← List.sum_append, List.take_append_drop]
      have hsum2 : (l.drop n ++ l.take n).sum = l.sum := by rw [List.sum_append, Int.add_comm, hsum]
      rw [Sum_small l il (by omega), Sum_small (l.take n) it (by omega), Sum_small (l.drop n) id (by omega), Sum_small (l.drop n ++ l.take n) (by
        intro x hx
        rcases List.mem_append.1 hx with h | h
        · exact id x h
        · exact it x h) (by rw [List.length_append]; omega), hsum2]
      simp only [Option.bind_some, if_true, bne_self_eq_false, quitrentlaw10_MoneyOrder.j1]
      rw [if_neg (by decide)]
      rw [← hsum]
      generalize (l.take n).sum = p
      generalize (l.drop n).sum = q
      simp only [quitrentlaw10_MoneyOrder.j2, goes_true, Option.bind_some]
      by_cases hp : I64 p
      · rw [small_yes _ hp]
        simp only [if_true]
        by_cases hq : I64 q
        · rw [small_yes _ hq]
          simp only [if_true, Add_small p q hp hq, Option.bind_some, show ((0 : Int) == 0) = true by decide]
        · rw [small_no _ hq]
          simp only [show ((30 : Int) == 0) = false by decide]
          rw [if_neg (by decide)]
      · rw [small_no _ hp]
        simp
end Go.Proofs.Ytdhiaagjbdbnhaa.Pure
