/- What was put is read again. -/
import Derived.Test.YtifacclmfjmilaaPMath
namespace Go.Proofs.Ytifacclmfjmilaa.Ext
open Go.RowKit Go.Proofs.YtifacclmfjmilaaW.PrintWords Go.Proofs.YtifacclmfjmilaaW.PrintLast Go.Proofs.YtifacclmfjmilaaW.PrintMore Go.Proofs.YtifacclmfjmilaaW.Hand Go.Proofs.Ytifacclmfjmilaa.PZ
set_option linter.unusedVariables false
theorem wrap_mod (v : Int) (h : I64 v) : wrap64 (v % top64) = v := by
  unfold I64 at h
  unfold wrap64 top64
  omega
theorem take_bytes8 (v : Int) (l rest : List Int) : (bytes8 (v :: l) ++ rest).take 8 = beN 8 (v % top64) ∧ (bytes8 (v :: l) ++ rest).drop 8 = bytes8 l ++ rest := by
  have e : bytes8 (v :: l) ++ rest = beN 8 (v % top64) ++ (bytes8 l ++ rest) := by simp [bytes8]
  have h8 : (beN 8 (v % top64)).length = 8 := beN_length _ _
  rw [e]
  exact ⟨by rw [List.take_append_of_le_length (by omega), List.take_of_length_le (by omega)], by rw [List.drop_append_of_le_length (by omega), List.drop_of_length_le (by omega), List.nil_append]⟩
theorem int_put (v : Int) (l rest : List Int) (h : I64 v) : (⟨bytes8 (v :: l) ++ rest, false⟩ : Rs).int = (v, ⟨bytes8 l ++ rest, false⟩) := by
  obtain ⟨e1, e2⟩ := take_bytes8 v l rest
  have hlen : ¬ ((⟨bytes8 (v :: l) ++ rest, false⟩ : Rs).bad = true ∨ (⟨bytes8 (v :: l) ++ rest, false⟩ : Rs).xs.length < 8) := by
    simp only [not_or]
    refine ⟨by decide, ?_⟩
    show ¬ (bytes8 (v :: l) ++ rest).length < 8
    rw [List.length_append, bytes8_length, List.length_cons]; omega
  unfold Rs.int
  rw [Rs.take_yes hlen]
  show (wrap64 (beVal ((bytes8 (v :: l) ++ rest).take 8)), (⟨(bytes8 (v :: l) ++ rest).drop 8, false⟩ : Rs)) = _
  rw [e1, e2, beVal_beN_lt 8 _ (top_pos v).1 (by have := (top_pos v).2; rw [show (256 : Int) ^ 8 = top64 by decide]; exact this), wrap_mod v h]
theorem skip_put : ∀ (k : Nat) (l rest : List Int), k ≤ l.length → (∀ v ∈ l, I64 v) → (⟨bytes8 l ++ rest, false⟩ : Rs).skip k = ⟨bytes8 (l.drop k) ++ rest, false⟩ := by
  intro k
  induction k with
  | zero => intro l rest _ _; rfl
  | succ k ih =>
    intro l rest hk hl
    show ((⟨bytes8 l ++ rest, false⟩ : Rs).skip k).int.2 = _
    rw [ih l rest (by omega) hl, List.drop_eq_getElem_cons (show k < l.length by omega), int_put _ _ _ (hl _ (List.getElem_mem _))]
theorem nth_put (k : Nat) (l rest : List Int) (hk : k < l.length) (hl : ∀ v ∈ l, I64 v) : (⟨bytes8 l ++ rest, false⟩ : Rs).nth k = l[k] := by
  unfold Rs.nth
  rw [skip_put k l rest (by omega) hl, List.drop_eq_getElem_cons hk, int_put _ _ _ (hl _ (List.getElem_mem _))]
theorem chk_range {ls : List S55} (h : chk ls = true) : ls.length ≤ 4 ∧ ∀ t ∈ ls, I64 t.f0 ∧ I64 t.f1 := by
  unfold chk at h
  rw [Bool.and_eq_true, decide_eq_true_eq] at h
  refine ⟨h.1.2, ?_⟩
  have key : ∀ (l : List S55) (was : Int), 0 ≤ was → chkFrom was l = true → ∀ t ∈ l, I64 t.f0 ∧ I64 t.f1 := by
    intro l
    induction l with
    | nil => intro was _ _ t ht; cases ht
    | cons t l ih =>
      intro was hw hc x hx
      cases l with
      | nil =>
        simp only [chkFrom, okP, Bool.and_eq_true, decide_eq_true_eq, beq_iff_eq] at hc
        simp only [List.mem_singleton] at hx
        subst hx
        unfold I64; omega
      | cons u l =>
        simp only [chkFrom, okP, Bool.and_eq_true, decide_eq_true_eq] at hc
        rcases List.mem_cons.1 hx with rfl | hx
        · unfold I64; omega
        · exact ih t.f0 (by omega) hc.2 x hx
  exact key ls 0 (by omega) h.2
theorem uint_put (v : Int) (l rest : List Int) : (⟨bytes8 (v :: l) ++ rest, false⟩ : Rs).uint = (v % top64, ⟨bytes8 l ++ rest, false⟩) := by
  obtain ⟨e1, e2⟩ := take_bytes8 v l rest
  have hlen : ¬ ((⟨bytes8 (v :: l) ++ rest, false⟩ : Rs).bad = true ∨ (⟨bytes8 (v :: l) ++ rest, false⟩ : Rs).xs.length < 8) := by
    simp only [not_or]
    refine ⟨by decide, ?_⟩
    show ¬ (bytes8 (v :: l) ++ rest).length < 8
    rw [List.length_append, bytes8_length, List.length_cons]; omega
  unfold Rs.uint
  rw [Rs.take_yes hlen]
  show (beVal ((bytes8 (v :: l) ++ rest).take 8), (⟨(bytes8 (v :: l) ++ rest).drop 8, false⟩ : Rs)) = _
  rw [e1, e2, beVal_beN_lt 8 _ (top_pos v).1 (by have := (top_pos v).2; rw [show (256 : Int) ^ 8 = top64 by decide]; exact this)]
theorem tierNums_inj : ∀ (a b : List S55), tierNums a = tierNums b → a = b := by
  intro a
  induction a with
  | nil =>
    intro b h
    cases b with
    | nil => rfl
    | cons y b => simp [tierNums] at h
  | cons x a ih =>
    intro b h
    cases b with
    | nil => simp [tierNums] at h
    | cons y b =>
      simp only [tierNums, List.map_cons, List.flatten_cons, List.cons_append, List.nil_append, List.cons.injEq] at h
      obtain ⟨h1, h2, h3⟩ := h
      rw [ih b h3]
      cases x; cases y
      simp only at h1 h2
      rw [h1, h2]
theorem tierNums_length (ls : List S55) : (tierNums ls).length = 2 * ls.length := by
  induction ls with
  | nil => rfl
  | cons x a ih => simp [tierNums] at ih ⊢; omega
theorem tierNums_mem {ls : List S55} (h : ∀ t ∈ ls, I64 t.f0 ∧ I64 t.f1) : ∀ v ∈ tierNums ls, I64 v := by
  intro v hv
  obtain ⟨l, hl, hvl⟩ := List.mem_flatten.1 hv
  obtain ⟨t, ht, rfl⟩ := List.mem_map.1 hl
  have := h t ht
  simp at hvl
  rcases hvl with rfl | rfl
  · exact this.1
  · exact this.2
/-- What Put makes, with or without bytes behind it, is read so. -/
theorem pget_rest (a0 a1 a2 a3 a4 a5 : Int) (ls : List S55) (rest : List Int) (h0 : a0 ≤ 4294967295) (hk : pchk a0 a1 a2 a3 a4 a5 ls = true) :
    pget (bytes8 (planNums a0 a1 a2 a3 a4 a5 ls) ++ rest) = if rest = [] then (a0, a1, a2, a3, a4, a5, ls, 0) else (0, 0, 0, 0, 0, 0, [], 21) := by
  have hk' := hk
  unfold pchk at hk'
  rw [Bool.and_eq_true, Bool.and_eq_true, decide_eq_true_eq] at hk'
  obtain ⟨hl4, ht⟩ := chk_range hk'.2.2
  have n1 : 0 ≤ a1 ∧ a1 ≤ 1099511627776 := numsOk_of hk 0 (by decide)
  have n2 : 0 ≤ a2 ∧ a2 ≤ 1099511627776 := numsOk_of hk 1 (by decide)
  have n3 : 0 ≤ a3 ∧ a3 ≤ 1099511627776 := numsOk_of hk 2 (by decide)
  have n4 : 0 ≤ a4 ∧ a4 ≤ 1099511627776 := numsOk_of hk 3 (by decide)
  have n5 : 0 ≤ a5 ∧ a5 ≤ 1125899906842624 := numsOk_of hk 4 (by decide)
  obtain ⟨nums, hn⟩ : ∃ n, [a1, a2, a3, a4, a5, (ls.length : Int)] ++ tierNums ls = n := ⟨_, rfl⟩
  have hpl : planNums a0 a1 a2 a3 a4 a5 ls = a0 :: nums := by rw [← hn]; rfl
  have hlen : nums.length = 6 + 2 * ls.length := by rw [← hn, List.length_append, tierNums_length]; rfl
  have hI : ∀ v ∈ nums, I64 v := by
    intro v hv
    rw [← hn] at hv
    rcases List.mem_append.1 hv with hv | hv
    · simp at hv
      unfold I64
      rcases hv with rfl | rfl | rfl | rfl | rfl | rfl <;> omega
    · exact tierNums_mem ht v hv
  have hm : a0 % top64 = a0 := by unfold top64; omega
  obtain ⟨r, hr⟩ : ∃ r : Rs, (⟨bytes8 nums ++ rest, false⟩ : Rs) = r := ⟨_, rfl⟩
  have hu : (⟨bytes8 (planNums a0 a1 a2 a3 a4 a5 ls) ++ rest, false⟩ : Rs).uint = (a0, r) := by rw [hpl, uint_put, hm, hr]
  have hnth : ∀ (k : Nat) (h : k < nums.length), r.nth k = nums[k] := fun k h => by rw [← hr]; exact nth_put k nums rest h hI
  have hall : (List.range (6 + 2 * ls.length)).map r.nth = nums := by
    apply List.ext_getElem
    · simp [hlen]
    · intro i h1 h2
      rw [List.getElem_map, List.getElem_range]
      exact hnth i h2
  rw [nums_of, ← hn] at hall
  simp only [List.cons_append, List.nil_append, List.cons.injEq] at hall
  obtain ⟨e0, e1, e2, e3, e4, e5, e6⟩ := hall
  have e6 := tierNums_inj _ _ e6
  have hsk : r.skip (6 + 2 * ls.length) = ⟨rest, false⟩ := by
    rw [← hr, skip_put _ _ _ (by omega) hI, List.drop_of_length_le (by omega)]
    simp [bytes8]
  unfold pget
  rw [hu]
  simp only []
  rw [e5, if_neg (by omega), Int.toNat_natCast, e0, e1, e2, e3, e4, e6, hsk]
  by_cases hrest : rest = []
  · subst hrest
    rw [if_pos ⟨rfl, hk⟩, if_pos rfl]
  · have hd : (⟨rest, false⟩ : Rs).done ≠ 0 := by
      unfold Rs.done
      rw [if_pos (.inr (by show 0 < rest.length; exact List.length_pos_iff.2 hrest))]
      decide
    rw [if_neg (fun h => hd h.1), if_neg hrest]
/-- Bytes that are no whole numbers are no plan. -/
theorem pget_off (l : List Int) (hb : ∀ x ∈ l, IsByte x) (h : l.length % 8 ≠ 0) : pget l = (0, 0, 0, 0, 0, 0, [], 21) := by
  rcases pget_sound l hb with h1 | ⟨a0, a1, a2, a3, a4, a5, ls, _, _, _, hbt⟩
  · exact h1
  · exfalso
    rw [← hbt, bytes8_length] at h
    omega
theorem bytes8_bytes (l : List Int) : ∀ x ∈ bytes8 l, IsByte x := by
  intro x hx
  obtain ⟨b, hb, hxb⟩ := List.mem_flatten.1 hx
  obtain ⟨v, _, rfl⟩ := List.mem_map.1 hb
  exact beN_bytes 8 _ x hxb
end Go.Proofs.Ytifacclmfjmilaa.Ext
