/- What is read is what was put: plain facts on plans' bytes. -/
import Derived.Test.YtifacclmfjmilaaExtP
import Derived.Test.YtifacclmfjmilaaBeMath
namespace Go.Proofs.Ytifacclmfjmilaa.Ext
open Go.RowKit Go.Proofs.YtifacclmfjmilaaW.PrintWords Go.Proofs.YtifacclmfjmilaaW.PrintLast Go.Proofs.YtifacclmfjmilaaW.PrintMore Go.Proofs.YtifacclmfjmilaaW.Hand Go.Proofs.Ytifacclmfjmilaa.PZ
set_option linter.unusedVariables false
theorem top_emod_wrap (v : Int) (h0 : 0 ≤ v) (h1 : v < top64) : wrap64 v % top64 = v := by
  unfold wrap64 top64 at *
  omega
theorem int_good (r : Rs) (hb : ∀ x ∈ r.xs, IsByte x) (h : r.int.2.bad = false) : r.bad = false ∧ r.xs = beN 8 (r.int.1 % top64) ++ r.int.2.xs ∧ ∀ x ∈ r.int.2.xs, IsByte x := by
  unfold Rs.int Rs.take at h ⊢
  by_cases hc : r.bad = true ∨ r.xs.length < 8
  · rw [if_pos hc] at h; cases h
  · rw [if_neg hc]
    dsimp only
    have h1 : ∀ x ∈ r.xs.take 8, IsByte x := fun x hx => hb x (List.mem_of_mem_take hx)
    have hl : (r.xs.take 8).length = 8 := by rw [List.length_take]; omega
    have hv := beVal_lt _ h1
    rw [hl] at hv
    have e8 : (256 : Int) ^ 8 = top64 := by decide
    rw [e8] at hv
    have hbe := beN_beVal _ h1
    rw [hl] at hbe
    refine ⟨by simp at hc; exact hc.1, ?_, fun x hx => hb x (List.mem_of_mem_drop hx)⟩
    rw [top_emod_wrap _ hv.1 hv.2, hbe, List.take_append_drop]
theorem skip_good (r : Rs) (hb : ∀ x ∈ r.xs, IsByte x) : ∀ k, (r.skip k).bad = false → r.bad = false ∧ r.xs = bytes8 ((List.range k).map r.nth) ++ (r.skip k).xs ∧ ∀ x ∈ (r.skip k).xs, IsByte x := by
  intro k
  induction k with
  | zero => intro h; exact ⟨h, by simp [bytes8, Rs.skip], hb⟩
  | succ k ih =>
    intro h
    have hx : ∀ x ∈ (r.skip k).xs, IsByte x := by
      have key : ∀ j, ∀ x ∈ (r.skip j).xs, IsByte x := by
        intro j
        induction j with
        | zero => exact hb
        | succ j ihj =>
          intro x hx
          refine ihj x ?_
          show x ∈ (r.skip j).xs
          have hx : x ∈ (r.skip j).int.2.xs := hx
          unfold Rs.int Rs.take at hx
          by_cases hc : (r.skip j).bad = true ∨ (r.skip j).xs.length < 8
          · rw [if_pos hc] at hx; exact hx
          · rw [if_neg hc] at hx; exact List.mem_of_mem_drop hx
      exact key k
    obtain ⟨h1, h2, h3⟩ := int_good (r.skip k) hx h
    obtain ⟨i1, i2, i3⟩ := ih h1
    refine ⟨i1, ?_, h3⟩
    rw [List.range_succ, List.map_append, List.map_singleton, bytes8_snoc, List.append_assoc]
    rw [i2]
    conv => lhs; rw [h2]
    rfl
theorem uint_int (r : Rs) : r.uint.2 = r.int.2 := by
  unfold Rs.uint Rs.int
  cases r.take 8 with
  | mk a b => cases a <;> rfl
theorem uint_good (r : Rs) (hb : ∀ x ∈ r.xs, IsByte x) (h : r.uint.2.bad = false) : r.xs = beN 8 r.uint.1 ++ r.uint.2.xs ∧ (0 ≤ r.uint.1 ∧ r.uint.1 < top64) ∧ ∀ x ∈ r.uint.2.xs, IsByte x := by
  unfold Rs.uint Rs.take at h ⊢
  by_cases hc : r.bad = true ∨ r.xs.length < 8
  · rw [if_pos hc] at h; cases h
  · rw [if_neg hc]
    dsimp only
    have h1 : ∀ x ∈ r.xs.take 8, IsByte x := fun x hx => hb x (List.mem_of_mem_take hx)
    have hl : (r.xs.take 8).length = 8 := by rw [List.length_take]; omega
    have hv := beVal_lt _ h1
    rw [hl] at hv
    have e8 : (256 : Int) ^ 8 = top64 := by decide
    rw [e8] at hv
    have hbe := beN_beVal _ h1
    rw [hl] at hbe
    exact ⟨by rw [hbe, List.take_append_drop], hv, fun x hx => hb x (List.mem_of_mem_drop hx)⟩
theorem done_zero {r : Rs} (h : r.done = 0) : r.bad = false ∧ r.xs = [] := by
  unfold Rs.done at h
  by_cases hc : r.bad = true ∨ 0 < r.xs.length
  · rw [if_pos hc] at h; cases h
  · simp only [not_or, Bool.not_eq_true] at hc
    exact ⟨hc.1, List.eq_nil_of_length_eq_zero (by omega)⟩
theorem nums_of (r : Rs) (n : Nat) : (List.range (6 + 2 * n)).map r.nth = [r.nth 0, r.nth 1, r.nth 2, r.nth 3, r.nth 4, r.nth 5] ++ tierNums (tiersOf r n) := by
  induction n with
  | zero => rfl
  | succ n ih =>
    rw [show 6 + 2 * (n + 1) = 6 + 2 * n + 1 + 1 by omega, List.range_succ, List.range_succ, List.map_append, List.map_append, ih, tiersOf_snoc, tierNums_snoc]
    simp [show 7 + 2 * n = 6 + 2 * n + 1 by omega]
/-- What is read may be, and its bytes are those that were read; else nothing is answered. -/
theorem pget_sound (l : List Int) (hb : ∀ x ∈ l, IsByte x) : pget l = (0, 0, 0, 0, 0, 0, [], 21) ∨ ∃ a0 a1 a2 a3 a4 a5 ls, pget l = (a0, a1, a2, a3, a4, a5, ls, 0) ∧ a0 ≤ 4294967295 ∧ pchk a0 a1 a2 a3 a4 a5 ls = true ∧ bytes8 (planNums a0 a1 a2 a3 a4 a5 ls) = l := by
  by_cases h1 : 4294967295 < (⟨l, false⟩ : Rs).uint.1 ∨ (⟨l, false⟩ : Rs).uint.2.nth 5 < 0 ∨ 4 < (⟨l, false⟩ : Rs).uint.2.nth 5
  · left; unfold pget; simp only []; rw [if_pos h1]
  · by_cases h2 : ((⟨l, false⟩ : Rs).uint.2.skip (6 + 2 * ((⟨l, false⟩ : Rs).uint.2.nth 5).toNat)).done = 0 ∧ pchk (⟨l, false⟩ : Rs).uint.1 ((⟨l, false⟩ : Rs).uint.2.nth 0) ((⟨l, false⟩ : Rs).uint.2.nth 1) ((⟨l, false⟩ : Rs).uint.2.nth 2) ((⟨l, false⟩ : Rs).uint.2.nth 3) ((⟨l, false⟩ : Rs).uint.2.nth 4) (tiersOf (⟨l, false⟩ : Rs).uint.2 ((⟨l, false⟩ : Rs).uint.2.nth 5).toNat) = true
    · right
      refine ⟨_, _, _, _, _, _, _, by unfold pget; simp only []; rw [if_neg h1, if_pos h2], by omega, h2.2, ?_⟩
      have hub : ∀ x ∈ (⟨l, false⟩ : Rs).uint.2.xs, IsByte x := by
        intro x hx
        rw [uint_int] at hx
        unfold Rs.int Rs.take at hx
        by_cases hc : (⟨l, false⟩ : Rs).bad = true ∨ (⟨l, false⟩ : Rs).xs.length < 8
        · rw [if_pos hc] at hx; exact hb x hx
        · rw [if_neg hc] at hx; exact hb x (List.mem_of_mem_drop hx)
      obtain ⟨d1, d2⟩ := done_zero h2.1
      obtain ⟨s1, s2, _⟩ := skip_good _ hub _ d1
      obtain ⟨u1, u2, _⟩ := uint_good ⟨l, false⟩ hb s1
      rw [d2, List.append_nil, nums_of] at s2
      have hid : (⟨l, false⟩ : Rs).uint.1 % top64 = (⟨l, false⟩ : Rs).uint.1 := Int.emod_eq_of_lt u2.1 u2.2
      have hn : (((⟨l, false⟩ : Rs).uint.2.nth 5).toNat : Int) = (⟨l, false⟩ : Rs).uint.2.nth 5 := by omega
      have u1 : l = beN 8 (⟨l, false⟩ : Rs).uint.1 ++ (⟨l, false⟩ : Rs).uint.2.xs := u1
      rw [s2] at u1
      conv => rhs; rw [u1]
      unfold planNums
      rw [tiersOf_length, hn]
      simp only [bytes8, List.map_cons, List.flatten_cons, List.cons_append, List.nil_append, hid]
    · left; unfold pget; simp only []; rw [if_neg h1, if_neg h2]
end Go.Proofs.Ytifacclmfjmilaa.Ext
