/- entry: goes, great: what the law's own small functions answer. -/
import Derived.Test.YtdfmganmchmbjaaPZx2
import Derived.Test.YtdfmganmchmbjaaEChk
namespace Go.Proofs.Ytdfmganmchmbjaa.Ext
open Go.RowKit Go.Proofs.YtdfmganmchmbjaaW.PrintWords Go.Proofs.YtdfmganmchmbjaaW.PrintLast Go.Proofs.YtdfmganmchmbjaaW.PrintMore Go.Proofs.Ytdfmganmchmbjaa.PZ
set_option linter.unusedVariables false
set_option linter.unusedSimpArgs false
theorem goes_is : quitrentlaw14_goes.f = some true := by kernel_rfl
theorem great_l0 (a b c : Int) (l : List S37) : ∀ (n j : Nat), j ≤ l.length → l.length - j ≤ n → l.length ≤ 1000 → ∃ r, quitrentlaw14_great.l0 (n + 1) (j : Int) a b c l = some r := by
  intro n
  induction n with
  | zero =>
    intro j hj h hl
    rw [quitrentlaw14_great.l0, if_neg (by omega)]
    exact ⟨_, rfl⟩
  | succ n ih =>
    intro j hj h hl
    rw [quitrentlaw14_great.l0]
    by_cases hlt : (j : Int) < (l.length : Int)
    · rw [if_pos hlt, if_pos (by omega)]
      split
      · exact ⟨_, rfl⟩
      · rw [show wrap64 ((j : Int) + 1) = ((j + 1 : Nat) : Int) by unfold wrap64; omega]
        exact ih (j + 1) (by omega) (by omega) hl
    · rw [if_neg hlt]; exact ⟨_, rfl⟩
theorem great_is2 (a b c : Int) (l : List S37) (x0 x1 x2 x4 x5 : Int) (m : List S53) : ∃ r, PZ.quitrentlaw14_great.f 60 a b c l x0 x1 x2 m x4 x5 = some r := by
  unfold PZ.quitrentlaw14_great.f
  by_cases h : (l.length : Int) > 40
  · rw [if_pos h, PZ.quitrentlaw14_great.j0, if_pos rfl]
    exact ⟨true, rfl⟩
  · rw [if_neg h, PZ.quitrentlaw14_great.j0]
    by_cases h2 : decide ((m.length : Int) > 80) = true
    · rw [if_pos h2]; exact ⟨_, rfl⟩
    · rw [if_neg h2]
      exact great_l0 a b c l 58 0 (by omega) (by omega) (by omega)
theorem eposts_facts {a0 a1 : Int} {l : List S37} (h : eposts a0 a1 l = true) : 0 < l.length ∧ l.length ≤ 16 ∧ l.any pbad = false := by
  unfold eposts at h
  simp only [Bool.and_eq_true, decide_eq_true_eq, Bool.not_eq_true'] at h
  exact ⟨by omega, by omega, h.2⟩
end Go.Proofs.Ytdfmganmchmbjaa.Ext
