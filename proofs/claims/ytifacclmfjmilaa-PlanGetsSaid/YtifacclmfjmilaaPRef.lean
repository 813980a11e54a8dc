/- The reference's Put. -/
import Derived.Test.YtifacclmfjmilaaPZx2
import Derived.Test.YtifacclmfjmilaaPMath
namespace Go.Proofs.Ytifacclmfjmilaa.Pure
open Go.RowKit Go.Proofs.Ytifacclmfjmilaa.PZ Go.Proofs.YtifacclmfjmilaaW.PrintWords Go.Proofs.YtifacclmfjmilaaW.PrintLast Go.Proofs.Ytifacclmfjmilaa.Ext
theorem drop_rd (xs : List Int) (i : Nat) (h : i < xs.length) : xs.drop i = rd xs (i : Int) :: xs.drop (i + 1) := by
  rw [List.drop_eq_getElem_cons h]
  simp [rd, List.getD_eq_getElem?_getD, List.getElem?_eq_getElem h]
theorem drop_rdT (xs : List S55) (i : Nat) (h : i < xs.length) : xs.drop i = rd_T55 xs (i : Int) :: xs.drop (i + 1) := by
  rw [List.drop_eq_getElem_cons h]
  simp [rd_T55, List.getD_eq_getElem?_getD, List.getElem?_eq_getElem h]
theorem wrap_nat (i : Nat) (h : i < 1000000000) : wrap64 ((i : Int) + 1) = ((i + 1 : Nat) : Int) := by
  rw [wrap_i _ (by omega) (by omega)]; omega
theorem rput_l1 (xs : List Int) (hx : xs.length ≤ 1000) : ∀ (d i : Nat) (acc : List Int) (k : Nat), i + d = xs.length → d < k → acc.length = 8 * i →
    quitrentref13_Put.l1 k xs acc (i : Int) = some (acc ++ bytes8 (xs.drop i)) := by
  intro d
  induction d with
  | zero =>
    intro i acc k hi hk ha
    obtain ⟨k, rfl⟩ : ∃ m, k = m + 1 := ⟨k - 1, by omega⟩
    simp only [quitrentref13_Put.l1]
    rw [if_neg (by omega), List.drop_of_length_le (by omega)]
    simp [bytes8]
  | succ d ih =>
    intro i acc k hi hk ha
    obtain ⟨k, rfl⟩ : ∃ m, k = m + 1 := ⟨k - 1, by omega⟩
    simp only [quitrentref13_Put.l1]
    rw [if_pos (by omega), if_pos (by omega)]
    obtain ⟨v, hv⟩ : ∃ v, rd xs (i : Int) = v := ⟨_, rfl⟩
    have hn : quitrentref01_Number.f (IntKind.u64.wrap v) 8 = some (beN 8 (v % top64)) := by
      unfold quitrentref01_Number.f
      rw [u64_conv, if_pos ⟨(top_pos v).1, by decide, by decide⟩]
      rfl
    rw [hv, hn, Option.bind_some, beN_length, if_pos (by omega), wrap_nat i (by omega), ih (i + 1) _ k (by omega) (by omega) (by rw [List.length_append, beN_length]; omega), drop_rd xs i (by omega), hv]
    simp [bytes8]
theorem rput_l0 (a0 a1 a2 a3 a4 a5 : Int) (ls : List S55) (hx : ls.length ≤ 20) : ∀ (d i : Nat) (acc : List Int) (k : Nat), i + d = ls.length → acc.length = 7 + 2 * i → 100 + d < k →
    quitrentref13_Put.l0 k acc (i : Int) a0 a1 a2 a3 a4 a5 ls = some (bytes8 (acc ++ tierNums (ls.drop i))) := by
  intro d
  induction d with
  | zero =>
    intro i acc k hi ha hk
    obtain ⟨k, rfl⟩ : ∃ m, k = m + 1 := ⟨k - 1, by omega⟩
    simp only [quitrentref13_Put.l0]
    rw [if_neg (by omega), List.drop_of_length_le (by omega)]
    have := rput_l1 acc (by omega) acc.length 0 [] k (by omega) (by omega) rfl
    rw [show ((0 : Nat) : Int) = 0 from rfl] at this
    rw [this]
    simp [tierNums]
  | succ d ih =>
    intro i acc k hi ha hk
    obtain ⟨k, rfl⟩ : ∃ m, k = m + 1 := ⟨k - 1, by omega⟩
    simp only [quitrentref13_Put.l0]
    rw [if_pos (by omega), if_pos (by omega), Option.bind_some, if_pos (by simp; omega), wrap_nat i (by omega), ih (i + 1) _ k (by omega) (by simp; omega) (by omega), drop_rdT ls i (by omega)]
    simp [tierNums]
theorem rput (a0 a1 a2 a3 a4 a5 : Int) (ls : List S55) (hx : ls.length ≤ 20) (h0 : 0 ≤ a0) (h1 : a0 < 4294967296) (k : Nat) (hk : 200 ≤ k) : quitrentref13_Put.f k a0 a1 a2 a3 a4 a5 ls = some (bytes8 (planNums a0 a1 a2 a3 a4 a5 ls)) := by
  unfold quitrentref13_Put.f
  rw [wrap_i a0 (by omega) (by omega)]
  exact rput_l0 a0 a1 a2 a3 a4 a5 ls hx ls.length 0 _ k (by omega) rfl (by omega)
theorem rcheck (a0 a1 a2 a3 a4 a5 : Int) (ls : List S55) (h0 : 0 ≤ a0) : quitrentref13_Check.f a0 a1 a2 a3 a4 a5 ls = some (pchk a0 a1 a2 a3 a4 a5 ls) := by
  have hu : ∀ a, quitrentref13_units.f a = some (decide (0 ≤ a) && decide (a ≤ 1099511627776)) := fun a => by
    unfold quitrentref13_units.f
    by_cases h : a ≥ 0
    · rw [if_pos h, decide_eq_true (show 0 ≤ a from h)]; rfl
    · rw [if_neg h, decide_eq_false (show ¬ 0 ≤ a from h)]; rfl
  have hr : List.range 5 = [0, 1, 2, 3, 4] := rfl
  unfold quitrentref13_Check.f pchk numsOk quitrentref11_Check.f
  rw [hr, hu, hu, hu, hu]
  simp only [List.all_cons, List.all_nil, okNum, numOf, mostOf, Option.bind_some, Bool.and_true]
  by_cases h : a0 = 0
  · rw [if_pos h]; subst h; simp
  · rw [if_neg h]
    have hp : decide (0 < a0) = true := decide_eq_true (by omega)
    rw [hp]
    simp only [show (0 < 4) = True by simp, show (1 < 4) = True by simp, show (2 < 4) = True by simp, show (3 < 4) = True by simp, show (4 < 4) = False by simp, if_true, if_false]
    obtain ⟨c1, e1⟩ : ∃ c, (decide (0 ≤ a1) && decide (a1 ≤ 1099511627776)) = c := ⟨_, rfl⟩
    obtain ⟨c2, e2⟩ : ∃ c, (decide (0 ≤ a2) && decide (a2 ≤ 1099511627776)) = c := ⟨_, rfl⟩
    obtain ⟨c3, e3⟩ : ∃ c, (decide (0 ≤ a3) && decide (a3 ≤ 1099511627776)) = c := ⟨_, rfl⟩
    obtain ⟨c4, e4⟩ : ∃ c, (decide (0 ≤ a4) && decide (a4 ≤ 1099511627776)) = c := ⟨_, rfl⟩
    rw [e1, e2, e3, e4]
    cases c1 <;> cases c2 <;> cases c3 <;> cases c4 <;> simp
    by_cases h5 : 0 ≤ a5
    · by_cases h6 : a5 ≤ 1125899906842624 <;> simp [h5, h6]
    · simp [h5]
end Go.Proofs.Ytifacclmfjmilaa.Pure
