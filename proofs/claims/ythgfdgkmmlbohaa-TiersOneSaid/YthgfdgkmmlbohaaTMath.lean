/- Plain facts on tiers: what the program's price and the document's come to. -/
import Derived.Test.YthgfdgkmmlbohaaRPrice
namespace Go.Proofs.Ythgfdgkmmlbohaa.Ext
open Go.RowKit Go.Proofs.YthgfdgkmmlbohaaW.PrintWords Go.Proofs.YthgfdgkmmlbohaaW.PrintLast Go.Proofs.YthgfdgkmmlbohaaW.PrintMore Go.Proofs.Ythgfdgkmmlbohaa.PZ
set_option linter.unusedVariables false
/-- What all spans cost together. -/
def tot : List (S27 × Int) → Int
  | [] => 0
  | x :: l => x.1.f1 * x.2 + tot l
theorem tot_nonneg (l : List (S27 × Int)) (h : ∀ x ∈ l, 0 ≤ x.1.f1 ∧ 0 ≤ x.2) : 0 ≤ tot l := by
  induction l with
  | nil => exact Int.le_refl _
  | cons x l ih =>
    have h1 := h x (by simp)
    have h2 := ih (fun y hy => h y (by simp [hy]))
    have h3 := Int.mul_nonneg h1.1 h1.2
    simp only [tot]
    omega
theorem acc_from (l : List (S27 × Int)) (h : ∀ x ∈ l, 0 ≤ x.1.f1 ∧ 0 ≤ x.2) : ∀ s : Int, 0 ≤ s → s < 9223372036854775808 → l.foldl pstep (some s) = if s + tot l < 9223372036854775808 then some (s + tot l) else none := by
  induction l with
  | nil =>
    intro s h0 h1
    simp only [List.foldl_nil, tot, Int.add_zero]
    rw [if_pos h1]
  | cons x l ih =>
    intro s h0 h1
    have hx := h x (by simp)
    have hp := Int.mul_nonneg hx.1 hx.2
    have hl := tot_nonneg l (fun y hy => h y (by simp [hy]))
    rw [List.foldl_cons]
    have ht : tot (x :: l) = x.1.f1 * x.2 + tot l := rfl
    obtain ⟨P, hP⟩ : ∃ P, x.1.f1 * x.2 = P := ⟨_, rfl⟩
    rw [hP] at hp ht
    have e : pstep (some s) x = if s + P < 9223372036854775808 then some (s + P) else none := by
      simp only [pstep, Option.bind_some, hP]
      by_cases c : s + P < 9223372036854775808
      · rw [if_pos c, if_pos (show I64 P by unfold I64; omega), if_pos (show I64 (s + P) by unfold I64; omega)]
      · rw [if_neg c]
        by_cases c2 : P < 9223372036854775808
        · rw [if_pos (show I64 P by unfold I64; omega), if_neg (show ¬ I64 (s + P) by unfold I64; omega)]
        · rw [if_neg (show ¬ I64 P by unfold I64; omega)]
    rw [e]
    by_cases c : s + P < 9223372036854775808
    · rw [if_pos c, ih (fun y hy => h y (by simp [hy])) (s + P) (by omega) c]
      have hE : s + P + tot l = s + tot (x :: l) := by rw [ht]; omega
      rw [hE]
    · rw [if_neg c, foldl_none, if_neg (by rw [ht]; omega)]
theorem spans_nonneg {ls : List S27} {n : Int} (h : ∀ t ∈ ls, 0 ≤ t.f1) : ∀ was : Int, ∀ x ∈ spansFrom n was ls, 0 ≤ x.1.f1 ∧ 0 ≤ x.2 := by
  induction ls with
  | nil => intro was x hx; cases hx
  | cons t ls ih =>
    intro was x hx
    rcases List.mem_cons.1 hx with rfl | hx
    · refine ⟨h t (by simp), ?_⟩
      unfold spanOf
      dsimp only
      split <;> omega
    · exact ih (fun u hu => h u (by simp [hu])) _ x hx
/-- The whole cost of n units. -/
def cost (ls : List S27) (n : Int) : Int := tot (spansFrom n 0 ls)
def priceT (T : Int) : Int × Int := if T < 9223372036854775808 then (T, 0) else (0, 30)
theorem cost_nonneg {ls : List S27} (hk : chk ls = true) (n : Int) : 0 ≤ cost ls n := tot_nonneg _ (spans_nonneg (fun t ht => (chk_all hk t ht).2.2.1) 0)
theorem price_cost {ls : List S27} {n : Int} (hk : chk ls = true) (hn : 0 ≤ n) : priceL ls n = priceT (cost ls n) := by
  unfold priceL
  rw [if_pos ⟨hk, hn⟩]
  unfold priceAcc
  rw [acc_from _ (spans_nonneg (fun t ht => (chk_all hk t ht).2.2.1) 0) 0 (by omega) (by omega)]
  unfold priceT cost
  rw [Int.zero_add]
  split <;> rfl
theorem atL_skip (pre r : List S27) (m : Int) (h : ∀ t ∈ pre, t.f0 ≠ 0 ∧ t.f0 < m) : atL (pre ++ r) m = atL r m := by
  induction pre with
  | nil => rfl
  | cons t pre ih =>
    have ht := h t (by simp)
    simp only [List.cons_append, atL]
    rw [if_neg (by omega)]
    exact ih (fun u hu => h u (by simp [hu]))
/-- One step of Check's chain. -/
theorem chk_head {was : Int} {t : S27} {l : List S27} (h : chkFrom was (t :: l) = true) (hw : 0 ≤ was) : (t.f0 = 0 ∧ l = []) ∨ (was < t.f0 ∧ chkFrom t.f0 l = true) := by
  cases l with
  | nil =>
    simp only [chkFrom, okP, Bool.and_eq_true, decide_eq_true_eq, beq_iff_eq] at h
    exact .inl ⟨h.2, rfl⟩
  | cons u l =>
    simp only [chkFrom, okP, Bool.and_eq_true, decide_eq_true_eq] at h
    exact .inr ⟨h.1.2.1, h.2⟩
theorem tot_zero (n : Int) (r : List S27) : ∀ was : Int, 0 ≤ was → n ≤ was → chkFrom was r = true → tot (spansFrom n was r) = 0 := by
  induction r with
  | nil => intro was _ _ _; rfl
  | cons t r ih =>
    intro was hw hn hc
    have hs : spanOf n was t = 0 := by
      unfold spanOf endOf
      rcases chk_head hc hw with ⟨h1, _⟩ | ⟨h1, _⟩ <;> (split <;> (try split) <;> (try split) <;> omega)
    simp only [spansFrom, tot]
    rw [hs, Int.mul_zero, Int.zero_add]
    rcases chk_head hc hw with ⟨h1, rfl⟩ | ⟨h1, h2⟩
    · rfl
    · have : wasOf was t = t.f0 := by unfold wasOf; rw [if_pos h1]
      rw [this]
      exact ih t.f0 (by omega) (by omega) h2
theorem rtot_tot (ls : List S27) (n : Int) (hn : 0 ≤ n) : ∀ (r pre : List S27) (was : Int), ls = pre ++ r → (∀ t ∈ pre, t.f0 ≠ 0 ∧ t.f0 ≤ was) → 0 ≤ was → chkFrom was r = true →
    rtot ls n r (if was < n then was else n) = tot (spansFrom n was r) := by
  intro r
  induction r with
  | nil => intro pre was _ _ _ _; rfl
  | cons t r ih =>
    intro pre was hls hpre hw hc
    by_cases hwn : was < n
    · rw [if_pos hwn]
      simp only [rtot, spansFrom, tot]
      rw [if_pos hwn]
      have hE : endR n t = endOf n t := by
        unfold endR endOf
        rcases chk_head hc hw with ⟨h1, _⟩ | ⟨h1, _⟩
        · rw [if_pos h1, if_neg (show ¬ 0 < t.f0 by omega)]
        · rw [if_neg (show ¬ t.f0 = 0 by omega), if_pos (show 0 < t.f0 by omega)]
      have hs : spanOf n was t = endOf n t - was := by
        unfold spanOf
        rw [if_pos]
        unfold endOf
        rcases chk_head hc hw with ⟨h1, _⟩ | ⟨h1, _⟩ <;> (split <;> (try split) <;> omega)
      have hat : atL ls (endOf n t) = t.f1 := by
        rw [hls, atL_skip]
        · simp only [atL]
          rw [if_pos]
          unfold endOf
          rcases chk_head hc hw with ⟨h1, _⟩ | ⟨h1, _⟩
          · exact .inl h1
          · exact .inr (by split <;> (try split) <;> omega)
        · intro u hu
          have := hpre u hu
          refine ⟨this.1, ?_⟩
          unfold endOf
          rcases chk_head hc hw with ⟨h1, _⟩ | ⟨h1, _⟩ <;> (split <;> (try split) <;> omega)
      rw [hE, hat, hs, Int.mul_comm t.f1]
      congr 1
      rcases chk_head hc hw with ⟨h1, rfl⟩ | ⟨h1, h2⟩
      · rfl
      · have e1 : wasOf was t = t.f0 := by unfold wasOf; rw [if_pos h1]
        have e2 : endOf n t = if t.f0 < n then t.f0 else n := by unfold endOf; rw [if_pos (by omega)]
        rw [e1, e2]
        refine ih (pre ++ [t]) t.f0 (by rw [hls]; simp) (fun u hu => ?_) (by omega) h2
        rcases List.mem_append.1 hu with h | h
        · have := hpre u h; exact ⟨this.1, by omega⟩
        · rw [List.mem_singleton] at h; subst h; exact ⟨by omega, Int.le_refl _⟩
    · rw [if_neg hwn, tot_zero n (t :: r) was hw (by omega) hc]
      simp only [rtot]
      rw [if_neg (by omega)]
theorem chk_from {ls : List S27} (hk : chk ls = true) : chkFrom 0 ls = true := by
  unfold chk at hk
  rw [Bool.and_eq_true] at hk
  exact hk.2
theorem rprice_price (ls : List S27) (n : Int) : rpriceL ls n = priceL ls n := by
  by_cases h : chk ls = true ∧ 0 ≤ n
  · rw [price_cost h.1 h.2]
    unfold rpriceL
    rw [if_pos h]
    have h0 := cost_nonneg h.1 n
    have e : rtot ls n ls 0 = cost ls n := by
      have := rtot_tot ls n h.2 ls [] 0 rfl (fun t ht => by cases ht) (by omega) (chk_from h.1)
      by_cases hn : (0 : Int) < n
      · rw [if_pos hn] at this; exact this
      · rw [if_neg hn] at this
        have hz : n = 0 := by omega
        rw [hz] at this ⊢
        exact this
    rw [e]
    unfold rpriceOf priceT
    by_cases c : cost ls n < 9223372036854775808
    · rw [if_pos c, if_pos ⟨show I64 (cost ls n) by unfold I64; omega, h0⟩]
    · rw [if_neg c, if_neg (fun h => c (by have := h.1; unfold I64 at this; omega))]
  · unfold rpriceL priceL
    rw [if_neg h, if_neg h]
/-- One unit more. -/
theorem tot_next (n : Int) (hn : 0 ≤ n) : ∀ (r : List S27) (was : Int), 0 ≤ was → chkFrom was r = true → tot (spansFrom (n + 1) was r) = tot (spansFrom n was r) + if was ≤ n then atL r (n + 1) else 0 := by
  intro r
  induction r with
  | nil => intro was _ _; simp [spansFrom, tot, atL]
  | cons t r ih =>
    intro was hw hc
    simp only [spansFrom, tot, atL]
    rcases chk_head hc hw with ⟨h1, rfl⟩ | ⟨h1, h2⟩
    · simp only [spansFrom, tot, Int.add_zero]
      rw [if_pos (show t.f0 = 0 ∨ n + 1 ≤ t.f0 from .inl h1)]
      unfold spanOf endOf
      rw [if_neg (show ¬ 0 < t.f0 by omega), if_neg (show ¬ 0 < t.f0 by omega)]
      by_cases c : was ≤ n
      · rw [if_pos (show 0 < n + 1 - was by omega), if_pos c]
        by_cases c2 : 0 < n - was
        · rw [if_pos c2, show n + 1 - was = (n - was) + 1 by omega, Int.mul_add, Int.mul_one]
        · rw [if_neg c2, show n + 1 - was = 1 by omega]; simp
      · rw [if_neg (show ¬ 0 < n + 1 - was by omega), if_neg (show ¬ 0 < n - was by omega), if_neg c]; simp
    · have e1 : wasOf was t = t.f0 := by unfold wasOf; rw [if_pos h1]
      rw [e1, ih t.f0 (by omega) h2]
      unfold spanOf endOf
      rw [if_pos (show 0 < t.f0 by omega), if_pos (show 0 < t.f0 by omega)]
      by_cases c : was ≤ n
      · rw [if_pos c]
        by_cases c2 : n + 1 ≤ t.f0
        · rw [if_pos (show t.f0 = 0 ∨ n + 1 ≤ t.f0 from .inr c2), if_neg (show ¬ t.f0 ≤ n by omega), if_neg (show ¬ t.f0 < n + 1 by omega), if_neg (show ¬ t.f0 < n by omega), if_pos (show 0 < n + 1 - was by omega), Int.add_zero]
          by_cases c3 : 0 < n - was
          · rw [if_pos c3, show n + 1 - was = (n - was) + 1 by omega, Int.mul_add, Int.mul_one]; omega
          · rw [if_neg c3, show n + 1 - was = 1 by omega]; simp; omega
        · rw [if_neg (show ¬ (t.f0 = 0 ∨ n + 1 ≤ t.f0) by omega), if_pos (show t.f0 ≤ n by omega), if_pos (show t.f0 < n + 1 by omega)]
          have e2 : (if t.f0 < n then t.f0 else n) = t.f0 := by split <;> omega
          rw [e2]
          omega
      · rw [if_neg c, if_neg (show ¬ t.f0 ≤ n by omega), if_neg (show ¬ t.f0 < n + 1 by omega), if_neg (show ¬ t.f0 < n by omega), if_neg (show ¬ 0 < n + 1 - was by omega), if_neg (show ¬ 0 < n - was by omega)]
        omega
theorem cost_next {ls : List S27} (hk : chk ls = true) {n : Int} (hn : 0 ≤ n) : cost ls (n + 1) = cost ls n + atL ls (n + 1) := by
  have := tot_next n hn ls 0 (by omega) (chk_from hk)
  rw [if_pos hn] at this
  exact this
theorem cost_zero {ls : List S27} (hk : chk ls = true) : cost ls 0 = 0 := tot_zero 0 ls 0 (by omega) (by omega) (chk_from hk)
end Go.Proofs.Ythgfdgkmmlbohaa.Ext
