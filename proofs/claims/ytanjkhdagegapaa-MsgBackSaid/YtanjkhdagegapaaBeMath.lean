/- Numbers and their bytes, the other way. -/
import Derived.Test.YtanjkhdagegapaaWMath
namespace Go.Proofs.Ytanjkhdagegapaa.Ext
open Go.RowKit Go.Proofs.YtanjkhdagegapaaW.PrintWords Go.Proofs.YtanjkhdagegapaaW.PrintLast Go.Proofs.YtanjkhdagegapaaW.PrintMore Go.Proofs.YtanjkhdagegapaaW.Hand
set_option linter.unusedVariables false
theorem foldl_be (l : List Int) (v : Int) : l.foldl (fun v c => v * 256 + c) v = v * 256 ^ l.length + beVal l := by
  induction l generalizing v with
  | nil => simp [beVal]
  | cons x l ih =>
    rw [List.foldl_cons, ih]
    unfold beVal
    rw [List.foldl_cons, ih (0 * 256 + x)]
    unfold beVal
    rw [List.length_cons, Int.pow_succ, Int.add_mul, Int.mul_assoc, Int.mul_comm 256 ((256 : Int) ^ l.length), Int.zero_mul, Int.zero_add, Int.add_assoc]
theorem beVal_cons (x : Int) (l : List Int) : beVal (x :: l) = x * 256 ^ l.length + beVal l := by
  show (x :: l).foldl (fun v c => v * 256 + c) 0 = _
  rw [List.foldl_cons, foldl_be, Int.zero_mul, Int.zero_add]
theorem beN_shift (n m : Nat) (a r : Int) (h : n ≤ m) : beN n (a * 256 ^ m + r) = beN n r := by
  induction n with
  | zero => rfl
  | succ n ih =>
    obtain ⟨d, hd⟩ : ∃ d, m = n + 1 + d := ⟨m - (n + 1), by omega⟩
    have e : a * 256 ^ m + r = r + (a * 256 ^ d * 256) * 256 ^ n := by
      rw [hd, Int.pow_add, Int.pow_add]
      rw [Int.add_comm, Int.mul_comm ((256 : Int) ^ n * 256 ^ 1), ← Int.mul_assoc, Int.mul_comm ((256 : Int) ^ n), ← Int.mul_assoc]
      rfl
    have hp : (256 : Int) ^ n ≠ 0 := Int.ne_of_gt (Int.pow_pos (by decide))
    rw [beN, beN, ih (by omega)]
    congr 1
    rw [e, Int.add_mul_ediv_right _ _ hp, Int.add_mul_emod_self_right]
theorem beN_beVal (l : List Int) (h : ∀ c ∈ l, IsByte c) : beN l.length (beVal l) = l := by
  induction l with
  | nil => rfl
  | cons x l ih =>
    have hl : ∀ c ∈ l, IsByte c := fun c hc => h c (by simp [hc])
    have hx : IsByte x := h x (by simp)
    obtain ⟨b0, b1⟩ := beVal_lt l hl
    obtain ⟨x0, x1⟩ := hx
    rw [List.length_cons, beN, beVal_cons, beN_shift _ _ _ _ (Nat.le_refl _), ih hl]
    congr 1
    have hp : (256 : Int) ^ l.length ≠ 0 := Int.ne_of_gt (Int.pow_pos (by decide))
    rw [Int.add_comm, Int.add_mul_ediv_right _ _ hp, Int.ediv_eq_zero_of_lt b0 b1]
    omega
end Go.Proofs.Ytanjkhdagegapaa.Ext
