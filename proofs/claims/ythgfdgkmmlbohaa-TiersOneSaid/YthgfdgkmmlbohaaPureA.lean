/- The laws of tiers, as plain statements, proved. -/
import Derived.Test.YthgfdgkmmlbohaaPZx
import Derived.Test.YthgfdgkmmlbohaaTMath
namespace Go.Proofs.Ythgfdgkmmlbohaa.Ext
open Go.RowKit Go.Proofs.YthgfdgkmmlbohaaW.PrintWords Go.Proofs.YthgfdgkmmlbohaaW.PrintLast Go.Proofs.YthgfdgkmmlbohaaW.PrintMore Go.Proofs.Ythgfdgkmmlbohaa.PZ
set_option linter.unusedVariables false
theorem goes_true : quitrentlaw11_goes.f = some true := by kernel_rfl
theorem price_f (ls : List S27) (n : Int) (h : I64 n) : tiers_Price.f ls n = some (priceL ls n) := if_pos h
theorem rprice_f (ls : List S27) (n : Int) (h : I64 n) : quitrentref11_Price.f ls n = some (rpriceL ls n) := if_pos h
theorem spans_f (ls : List S27) (n : Int) (h : I64 n) : tiers_Spans.f ls n = some (spansL ls n) := if_pos h
/-- TiersAll's loop: nothing was turned. -/
theorem all_loop (ls : List S27) (e a b : Int) (hn : ls.length ≤ 20) : ∀ (d i k : Nat), i + d = ls.length → d < k → quitrentlaw11_TiersAll.l0 k ls ls e a e a (i : Int) = some true := by
  intro d
  induction d with
  | zero =>
    intro i k hi hk
    obtain ⟨k, rfl⟩ : ∃ m, k = m + 1 := ⟨k - 1, by omega⟩
    simp only [quitrentlaw11_TiersAll.l0]
    rw [if_neg (by omega), if_pos trivial, if_pos trivial, goes_true]
    simp [tiers_Check.f, quitrentref11_Check.f]
  | succ d ih =>
    intro i k hi hk
    obtain ⟨k, rfl⟩ : ∃ m, k = m + 1 := ⟨k - 1, by omega⟩
    simp only [quitrentlaw11_TiersAll.l0]
    have e2 : wrap64 ((i : Int) + 1) = ((i + 1 : Nat) : Int) := by rw [wrap_i _ (by omega) (by omega)]; omega
    rw [if_pos (show (i : Int) < ls.length by omega), if_pos (show (0 : Int) ≤ i by omega), if_pos (show (i : Int) < ls.length by omega), if_neg (by simp), e2]
    exact ih (i + 1) k (by omega) (by omega)
theorem TiersAll_pure (ls : List S27) (n : Int) (hI : I64 n) : ∃ k, quitrentlaw11_TiersAll.f k ls n = some true := by
  refine ⟨ls.length + 1, ?_⟩
  unfold quitrentlaw11_TiersAll.f
  by_cases h : (ls.length : Int) > 20
  · rw [if_pos h]
  · rw [if_neg h]
    simp only [Option.bind_some, List.nil_append]
    rw [if_pos (show ([] : List S27).length + ls.length < 8796093022208 by simp; omega)]
    rw [price_f _ _ hI, rprice_f _ _ hI, rprice_price]
    rw [Option.bind_some, Option.bind_some]
    exact all_loop ls _ _ 0 (by omega) ls.length 0 (ls.length + 1) (by omega) (by omega)
theorem TiersNext_pure (ls : List S27) (n : Int) (hls : ∀ t ∈ ls, I64 t.f0 ∧ I64 t.f1) (hI : I64 n) : ∃ k, quitrentlaw11_TiersNext.f k ls n = some true := by
  refine ⟨2, ?_⟩
  have hg : ∀ k, quitrentlaw11_TiersNext.j0 (k + 1) ls n true = some true := fun k => by
    simp only [quitrentlaw11_TiersNext.j0, if_true, goes_true, Option.bind_some]
  unfold quitrentlaw11_TiersNext.f
  by_cases h : (ls.length : Int) > 20
  · rw [if_pos h]; exact hg 1
  rw [if_neg h]
  simp only [tiers_Check.f, Option.bind_some]
  by_cases hk : chk ls = true
  · rw [if_pos hk]
    by_cases h0 : n < 0
    · rw [if_pos h0]; exact hg 1
    rw [if_neg h0]
    by_cases h1 : n = 9223372036854775807
    · rw [show (n == 9223372036854775807) = true from beq_iff_eq.2 h1]; exact hg 1
    rw [show (n == 9223372036854775807) = false from beq_eq_false_iff_ne.2 h1]
    have hI2 := hI
    unfold I64 at hI2
    have ew : wrap64 (n + 1) = n + 1 := wrap_i _ (by omega) (by omega)
    simp only [quitrentlaw11_TiersNext.j0]
    rw [if_neg (by simp), price_f _ _ hI, ew, price_f _ _ (show I64 (n + 1) by unfold I64; omega), price_f _ _ (show I64 0 by unfold I64; omega)]
    simp only [Option.bind_some]
    rw [price_cost hk (show 0 ≤ n by omega), price_cost hk (show 0 ≤ n + 1 by omega), price_cost hk (Int.le_refl 0), cost_zero hk, cost_next hk (show 0 ≤ n by omega)]
    have hc := cost_nonneg hk n
    have ha := atL_range (ls := ls) (fun t ht => (chk_all hk t ht).2.2) (n + 1)
    generalize cost ls n = T at hc
    generalize hA : atL ls (n + 1) = A at ha
    have e0 : priceT 0 = (0, 0) := by unfold priceT; rw [if_pos (by omega)]
    rw [e0]
    dsimp only
    rw [if_pos rfl, show ((0 : Int) != 0) = false from rfl]
    simp only [quitrentlaw11_TiersNext.j1]
    rw [if_neg (by simp)]
    unfold priceT
    by_cases c : T < 9223372036854775808
    · rw [if_pos c]
      dsimp only
      rw [if_pos rfl]
      simp only [quitrentref11_At.f, Option.bind_some]
      rw [ew, hA, Add_small T A (by unfold I64; omega) (by unfold I64; omega)]
      simp only [Option.bind_some]
      by_cases c2 : T + A < 9223372036854775808
      · rw [if_pos c2, small_yes _ (show I64 (T + A) by unfold I64; omega)]
        simp [goes_true]
      · rw [if_neg c2, small_no _ (show ¬ I64 (T + A) by unfold I64; omega)]
        simp [goes_true]
    · rw [if_neg c, if_neg (show ¬ T + A < 9223372036854775808 by omega)]
      simp [goes_true]
  · rw [if_neg hk]; exact hg 1
end Go.Proofs.Ythgfdgkmmlbohaa.Ext
