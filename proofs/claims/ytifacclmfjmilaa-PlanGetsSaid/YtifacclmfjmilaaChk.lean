/- What the printed Check and At of tiers compute, in plain words. -/
import Derived.Test.YtifacclmfjmilaaCut
import Derived.Test.YtifacclmfjmilaaMath
namespace Go.Proofs.Ytifacclmfjmilaa.Ext
open Go.RowKit Go.Proofs.YtifacclmfjmilaaW.PrintWords Go.Proofs.YtifacclmfjmilaaW.PrintLast Go.Proofs.YtifacclmfjmilaaW.PrintMore Go.Proofs.Ytifacclmfjmilaa.PZ
set_option linter.unusedVariables false
def okP (t : S55) : Bool := decide (0 ≤ t.f1) && decide (t.f1 ≤ 1125899906842624)
/-- The tiers from one on, behind an end: may they be? -/
def chkFrom : Int → List S55 → Bool
  | _, [] => true
  | _, [t] => okP t && (t.f0 == 0)
  | was, t :: u :: l => okP t && (decide (was < t.f0) && decide (t.f0 ≤ 1099511627776)) && chkFrom t.f0 (u :: l)
def chk (ls : List S55) : Bool := decide (ls.length ≠ 0 ∧ ls.length ≤ 4) && chkFrom 0 ls
theorem drop27 (ls : List S55) (i : Nat) (h : i < ls.length) : ls.drop i = rd_T55 ls i :: ls.drop (i + 1) := by
  rw [List.drop_eq_getElem_cons h]
  simp [rd_T55, List.getD_eq_getElem?_getD, List.getElem?_eq_getElem h]
theorem wrap_i (a : Int) (h0 : -9223372036854775808 ≤ a) (h1 : a < 9223372036854775808) : wrap64 a = a := by unfold wrap64; omega
theorem tc_loop (ls : List S55) (hn : ls.length ≤ 9223372036854775807) : ∀ (d i : Nat) (was : Int) (k : Nat), i + d = ls.length → 2 * d < k →
    p_tiers_Check.l0 k ls was ls (ls.length : Int) (i : Int) = some (chkFrom was (ls.drop i)) := by
  intro d
  induction d with
  | zero =>
    intro i was k hi hk
    obtain ⟨k, rfl⟩ : ∃ m, k = m + 1 := ⟨k - 1, by omega⟩
    simp only [p_tiers_Check.l0]
    rw [if_neg (by omega), List.drop_of_length_le (by omega)]
    rfl
  | succ d ih =>
    intro i was k hi hk
    obtain ⟨k, rfl⟩ : ∃ m, k = m + 2 := ⟨k - 2, by omega⟩
    have hlt : i < ls.length := by omega
    have hd := drop27 ls i hlt
    simp only [p_tiers_Check.l0]
    rw [if_pos (by omega), if_pos (by omega), if_pos (by omega), hd]
    obtain ⟨t, ht⟩ : ∃ t, rd_T55 ls i = t := ⟨_, rfl⟩
    rw [ht] at hd ⊢
    have e1 : wrap64 ((ls.length : Int) - 1) = (ls.length : Int) - 1 := wrap_i _ (by omega) (by omega)
    have e2 : wrap64 ((i : Int) + 1) = ((i + 1 : Nat) : Int) := by rw [wrap_i _ (by omega) (by omega)]; omega
    have hne : chkFrom was (t :: ls.drop (i + 1)) = (okP t && if d = 0 then (t.f0 == 0) else ((decide (was < t.f0) && decide (t.f0 ≤ 1099511627776)) && chkFrom t.f0 (ls.drop (i + 1)))) := by
      by_cases h0 : d = 0
      · rw [if_pos h0, List.drop_of_length_le (by omega)]; rfl
      · rw [if_neg h0]
        have h1 : i + 1 < ls.length := by omega
        rw [drop27 ls (i + 1) h1]
        simp only [chkFrom, Bool.and_assoc]
    rw [hne]
    unfold okP
    by_cases c1 : t.f1 < 0
    · rw [if_pos c1]
      simp only [p_tiers_Check.j2]
      simp; omega
    · rw [if_neg c1]
      simp only [p_tiers_Check.j2]
      by_cases c2 : t.f1 > 1125899906842624
      · simp [c2]; intro _ h; omega
      · have c2' : ¬ decide (t.f1 > 1125899906842624) = true := by simpa using c2
        rw [if_neg c2', e1]
        have h1 : decide (0 ≤ t.f1) = true := by simp; omega
        have h2 : decide (t.f1 ≤ 1125899906842624) = true := by simp; omega
        rw [h1, h2]
        by_cases c3 : d = 0
        · rw [if_pos (by omega), if_pos c3]; rfl
        · rw [if_neg (by omega), if_neg c3]
          by_cases c4 : t.f0 ≤ was
          · rw [if_pos c4]; simp; omega
          · rw [if_neg c4]
            by_cases c5 : t.f0 > 1099511627776
            · rw [if_pos c5]; simp; omega
            · rw [if_neg c5, e2, ih (i + 1) t.f0 k (by omega) (by omega)]
              have h3 : decide (was < t.f0) = true := by simp; omega
              have h4 : decide (t.f0 ≤ 1099511627776) = true := by simp; omega
              rw [h3, h4]; rfl
theorem tc_f (ls : List S55) (hn : ls.length ≤ 9223372036854775807) : p_tiers_Check.f (2 * ls.length + 2) ls = some (chk ls) := by
  unfold p_tiers_Check.f chk
  by_cases h0 : (ls.length : Int) = 0
  · rw [if_pos h0]
    have : ls.length = 0 := by omega
    rw [this]
    rfl
  · rw [if_neg h0, show 2 * ls.length + 2 = (2 * ls.length + 1) + 1 from rfl]
    simp only [p_tiers_Check.j0]
    by_cases h4 : (ls.length : Int) > 4
    · have e : decide (ls.length ≠ 0 ∧ ls.length ≤ 4) = false := decide_eq_false (by omega)
      rw [if_pos (by simpa using h4), e]; rfl
    · have e : decide (ls.length ≠ 0 ∧ ls.length ≤ 4) = true := decide_eq_true (by omega)
      rw [if_neg (by simpa using h4), e]
      have := tc_loop ls hn ls.length 0 0 (2 * ls.length + 1) (by omega) (by omega)
      exact this
/-- What the reference's walk says of the tiers from number i on. -/
theorem rc_loop (ls : List S55) (hn : ls.length ≤ 9223372036854775807) : ∀ (d i : Nat) (was : Int) (k : Nat), i + d = ls.length → 2 * d < k → (i = 0 → was = 0) → (0 < i → was = (rd_T55 ls ((i : Int) - 1)).f0 ∧ (0 < d → 0 < was)) →
    p_quitrentref11_Check.l0 k ls (i : Int) = some (chkFrom was (ls.drop i) && decide (ls.length ≠ 0 ∧ ls.length ≤ 4)) := by
  intro d
  induction d with
  | zero =>
    intro i was k hi hk _ _
    obtain ⟨k, rfl⟩ : ∃ m, k = m + 1 := ⟨k - 1, by omega⟩
    simp only [p_quitrentref11_Check.l0]
    rw [if_neg (by omega), List.drop_of_length_le (by omega)]
    by_cases h1 : (ls.length : Int) ≥ 1
    · rw [if_pos h1]
      have : (decide ((ls.length : Int) ≤ 4)) = decide (ls.length ≠ 0 ∧ ls.length ≤ 4) := by
        rw [decide_eq_decide]; exact ⟨fun h => ⟨by omega, by omega⟩, fun h => by omega⟩
      rw [this]; rfl
    · rw [if_neg h1]
      have : decide (ls.length ≠ 0 ∧ ls.length ≤ 4) = false := decide_eq_false (by omega)
      rw [this]; rfl
  | succ d ih =>
    intro i was k hi hk hw0 hw1
    obtain ⟨k, rfl⟩ : ∃ m, k = m + 2 := ⟨k - 2, by omega⟩
    have hlt : i < ls.length := by omega
    have hd := drop27 ls i hlt
    simp only [p_quitrentref11_Check.l0]
    rw [if_pos (by omega), if_pos (by omega), hd]
    obtain ⟨t, ht⟩ : ∃ t, rd_T55 ls i = t := ⟨_, rfl⟩
    rw [ht] at hd ⊢
    have e1 : wrap64 ((ls.length : Int) - 1) = (ls.length : Int) - 1 := wrap_i _ (by omega) (by omega)
    have e2 : wrap64 ((i : Int) + 1) = ((i + 1 : Nat) : Int) := by rw [wrap_i _ (by omega) (by omega)]; omega
    have e3 : wrap64 ((i : Int) - 1) = (i : Int) - 1 := wrap_i _ (by omega) (by omega)
    have e4 : ((i : Int) == (ls.length : Int) - 1) = decide (d = 0) := by
      by_cases h : d = 0
      · rw [decide_eq_true h]; exact beq_iff_eq.2 (by omega)
      · rw [decide_eq_false h]; exact beq_eq_false_iff_ne.2 (by omega)
    rw [e1, e4]
    have hne : chkFrom was (t :: ls.drop (i + 1)) = (okP t && if d = 0 then (t.f0 == 0) else ((decide (was < t.f0) && decide (t.f0 ≤ 1099511627776)) && chkFrom t.f0 (ls.drop (i + 1)))) := by
      by_cases h0 : d = 0
      · rw [if_pos h0, List.drop_of_length_le (by omega)]; rfl
      · rw [if_neg h0]
        have h1 : i + 1 < ls.length := by omega
        rw [drop27 ls (i + 1) h1]
        simp only [chkFrom, Bool.and_assoc]
    rw [hne]
    have jt : ∀ b, p_quitrentref11_Check.j1 (k + 1) ls i b true = some false := fun b => by simp only [p_quitrentref11_Check.j1, if_true]
    unfold okP
    by_cases c1 : t.f1 < 0
    · rw [if_pos c1, jt]; simp; omega
    rw [if_neg c1]
    by_cases c2 : t.f1 > 1125899906842624
    · rw [if_pos c2, jt]; simp; omega
    rw [if_neg c2]
    have h1 : decide (0 ≤ t.f1) = true := by simp; omega
    have h2 : decide (t.f1 ≤ 1125899906842624) = true := by simp; omega
    rw [h1, h2]
    by_cases c3 : d = 0
    · have hx : decide (d = 0) = true := by simp [c3]
      rw [hx, if_pos c3]
      by_cases c4 : t.f0 = 0
      · have c4' : (t.f0 == 0) = true := by simp [c4]
        rw [c4', if_neg (by simp), if_neg (by omega)]
        simp only [p_quitrentref11_Check.j1]
        have c5 : ¬ (decide (t.f0 > 1099511627776)) = true := by simp; omega
        rw [if_neg c5]
        have := ih (i + 1) t.f0 k (by omega) (by omega) (by omega) (fun _ => ⟨by rw [show ((i + 1 : Nat) : Int) - 1 = (i : Int) by omega, ht], by omega⟩)
        rw [List.drop_of_length_le (by omega)] at this
        simp only [if_true, ite_self]
        rw [e2, this]
        rfl
      · have c4' : (t.f0 == 0) = false := by simp [c4]
        rw [c4', if_pos (by simp), jt]; rfl
    · have hx : decide (d = 0) = false := by simp [c3]
      rw [hx, if_neg c3]
      by_cases c4 : t.f0 = 0
      · have c4' : (t.f0 == 0) = true := by simp [c4]
        rw [c4', if_pos (by simp), jt]
        have : decide (was < t.f0) = false := by
          rcases Nat.eq_zero_or_pos i with h | h
          · have := hw0 h; simp; omega
          · have := (hw1 h).2 (by omega); simp; omega
        rw [this]; rfl
      have c4' : (t.f0 == 0) = false := by simp [c4]
      rw [c4', if_neg (by simp)]
      by_cases c5 : t.f0 < 0
      · rw [if_pos c5, jt]
        have : decide (was < t.f0) = false := by
          rcases Nat.eq_zero_or_pos i with h | h
          · have := hw0 h; simp; omega
          · have := (hw1 h).2 (by omega); simp; omega
        rw [this]; rfl
      rw [if_neg c5]
      simp only [p_quitrentref11_Check.j1]
      by_cases c6 : t.f0 > 1099511627776
      · rw [if_pos (by simpa using c6)]
        have : decide (t.f0 ≤ 1099511627776) = false := by simp; omega
        rw [this]; simp
      rw [if_neg (by simpa using c6)]
      have h6 : decide (t.f0 ≤ 1099511627776) = true := by simp; omega
      rw [h6]
      have hih := ih (i + 1) t.f0 k (by omega) (by omega) (by omega) (fun _ => ⟨by rw [show ((i + 1 : Nat) : Int) - 1 = (i : Int) by omega, ht], by omega⟩)
      by_cases c7 : (i : Int) > 0
      · rw [if_pos c7, if_neg (by simp), if_pos (by omega), if_pos (by omega), e3, if_pos (by omega), if_pos (by omega), ht]
        have hw := (hw1 (by omega)).1
        rw [← hw]
        by_cases c8 : t.f0 ≤ was
        · rw [if_pos c8]
          have : decide (was < t.f0) = false := by simp; omega
          rw [this]; rfl
        · rw [if_neg c8, e2, hih]
          have : decide (was < t.f0) = true := by simp; omega
          rw [this]; simp
      · rw [if_neg c7, e2, hih]
        have := hw0 (by omega)
        have : decide (was < t.f0) = true := by simp; omega
        rw [this]; simp
theorem rc_f (ls : List S55) (hn : ls.length ≤ 9223372036854775807) : p_quitrentref11_Check.f (2 * ls.length + 1) ls = some (chk ls) := by
  unfold p_quitrentref11_Check.f chk
  rw [Bool.and_comm]
  exact rc_loop ls hn ls.length 0 0 (2 * ls.length + 1) (by omega) (by omega) (fun _ => rfl) (fun h => by omega)
/-- The price of the unit of that number. -/
def atL : List S55 → Int → Int
  | [], _ => 0
  | t :: l, n => if t.f0 = 0 ∨ n ≤ t.f0 then t.f1 else atL l n
def tiers_Check.f (ls : List S55) : Option Bool := some (chk ls)
theorem tiers_Check.calls (A0 : Option Addr) (c0 : Nat) (l0 : List S55) (r : Bool) (w : World) (hr0 : Kd.C k55 w A0 l0.length l0) (hc0 : l0.length ≤ c0) (h : tiers_Check.f l0 = some r) :
    Calls Try.prog 25 #[.slice A0 l0.length c0] w fun e w' => e = .returned (.bool r) ∧ Below w.heap.size w w' := by
  obtain rfl := Option.some.inj h
  exact p_tiers_Check.calls _ A0 c0 l0 _ w hr0 hc0 (tc_f l0 hr0.2.1)
def quitrentref11_Check.f (ls : List S55) : Option Bool := some (chk ls)
theorem quitrentref11_Check.calls (A0 : Option Addr) (c0 : Nat) (l0 : List S55) (r : Bool) (w : World) (hr0 : Kd.C k55 w A0 l0.length l0) (hc0 : l0.length ≤ c0) (h : quitrentref11_Check.f l0 = some r) :
    Calls Try.prog 24 #[.slice A0 l0.length c0] w fun e w' => e = .returned (.bool r) ∧ Drawn0 w w' := by
  obtain rfl := Option.some.inj h
  exact p_quitrentref11_Check.calls _ A0 c0 l0 _ w hr0 hc0 (rc_f l0 hr0.2.1)
end Go.Proofs.Ytifacclmfjmilaa.Ext
