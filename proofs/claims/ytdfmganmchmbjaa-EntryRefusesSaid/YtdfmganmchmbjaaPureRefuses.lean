/- EntryRefuses: the plain law, and its walk over a posting that comes in. -/
import Derived.Test.YtdfmganmchmbjaaPZx3
import Derived.Test.YtdfmganmchmbjaaOpenE
namespace Go.Proofs.Ytdfmganmchmbjaa.Ext
open Go.RowKit Go.ChangeShapes Go.WideShapes Go.Proofs.YtdfmganmchmbjaaW.PrintWords Go.Proofs.YtdfmganmchmbjaaW.PrintLast Go.Proofs.YtdfmganmchmbjaaW.PrintMore Go.Proofs.Ytdfmganmchmbjaa.PZ
set_option linter.unusedVariables false
set_option linter.unusedSimpArgs false
theorem goes_is : quitrentlaw14_goes.f = some true := by kernel_rfl
theorem great_l0 (a b c : Int) (l : List S37) : ∀ (n j : Nat), j ≤ l.length → l.length - j ≤ n → l.length ≤ 1000 → ∃ r, quitrentlaw14_great.l0 (n + 1) (j : Int) a b c l = some r := by
  intro n
  induction n with
  | zero =>
    intro j hj h hl
    rw [quitrentlaw14_great.l0, if_neg (by omega)]
    exact ⟨_, rfl⟩
  | succ n ih =>
    intro j hj h hl
    rw [quitrentlaw14_great.l0]
    by_cases hlt : (j : Int) < (l.length : Int)
    · rw [if_pos hlt, if_pos (by omega)]
      split
      · exact ⟨_, rfl⟩
      · rw [show wrap64 ((j : Int) + 1) = ((j + 1 : Nat) : Int) by unfold wrap64; omega]
        exact ih (j + 1) (by omega) (by omega) hl
    · rw [if_neg hlt]; exact ⟨_, rfl⟩
theorem great_is (a b c : Int) (l : List S37) : ∃ r, quitrentlaw14_great.f 60 a b c l 0 0 0 [] 0 0 = some r ∧ (r = false → l.length ≤ 40) := by
  unfold quitrentlaw14_great.f
  by_cases h : (l.length : Int) > 40
  · rw [if_pos h, quitrentlaw14_great.j0, if_pos rfl]
    exact ⟨true, rfl, fun h => by cases h⟩
  · rw [if_neg h, quitrentlaw14_great.j0, if_neg (by simp)]
    obtain ⟨r, hr⟩ := great_l0 a b c l 58 0 (by omega) (by omega) (by omega)
    exact ⟨r, hr, fun _ => by omega⟩
theorem eput_no {a0 a1 a2 : Int} {l : List S37} (h : eposts a0 a1 l = false) (h0 : 0 ≤ a0 ∧ a0 < top64) : entry_PutPosting.f a0 a1 a2 l = some ([], 1) := by
  unfold entry_PutPosting.f
  rw [if_pos h0]
  unfold eput
  rw [if_neg (by rw [h]; decide)]
theorem eput_ok {a0 a1 a2 : Int} {l : List S37} (h : eposts a0 a1 l = true) (h0 : 0 ≤ a0 ∧ a0 < top64) : entry_PutPosting.f a0 a1 a2 l = some (epost a0 a1 a2 l, 0) := by
  unfold entry_PutPosting.f
  rw [if_pos h0]
  unfold eput
  rw [if_pos h]
theorem eposts_set (a0 a1 : Int) (l : List S37) (i : Nat) (x : S37) (hi : i < l.length) (hx : pbad x = true) : eposts a0 a1 (l.set i x) = false := by
  have h : (l.set i x).any pbad = true := List.any_eq_true.2 ⟨x, List.mem_set hi x, hx⟩
  unfold eposts
  rw [h]
  simp
theorem eposts_zero (a1 : Int) (l : List S37) : eposts 0 a1 l = false := by unfold eposts; simp
theorem set_put (a0 a1 a2 : Int) (h0 : 0 ≤ a0 ∧ a0 < top64) (l : List S37) (i : Nat) (x : S37) (hi : i < l.length) (hx : pbad x = true) : entry_PutPosting.f a0 a1 a2 (l.set i x) = some ([], 1) := eput_no (eposts_set a0 a1 l i x hi hx) h0
theorem eposts_facts {a0 a1 : Int} {l : List S37} (h : eposts a0 a1 l = true) : 0 < l.length ∧ l.length ≤ 16 ∧ l.any pbad = false := by
  unfold eposts at h
  simp only [Bool.and_eq_true, decide_eq_true_eq, Bool.not_eq_true'] at h
  exact ⟨by omega, by omega, h.2⟩
theorem tmod_in (x n : Int) (hx : 0 ≤ x) (hn : 0 < n) : 0 ≤ Int.tmod x n ∧ Int.tmod x n < n := by
  rw [Int.tmod_eq_emod_of_nonneg hx]
  exact ⟨Int.emod_nonneg _ (by omega), Int.emod_lt_of_pos _ hn⟩
theorem rd_size {l : List S37} (h : l.any pbad = false) (i : Int) (h0 : 0 ≤ i) (h1 : i < l.length) : (rd_T37 l i).f0.size ≤ 32 := by
  have hlt : i.toNat < l.length := by omega
  have : rd_T37 l i ∈ l := by
    simp only [rd_T37, List.getD_eq_getElem?_getD, List.getElem?_eq_getElem hlt]
    exact List.getElem_mem hlt
  exact (pbad_size (any_mem h this)).2.1
theorem refuses_f (a0 a1 a2 : Int) (l : List S37) (at_ which : Int) (h0 : 0 ≤ a0 ∧ a0 < top64) (ha : 0 ≤ at_ ∧ at_ < 256) (hw : 0 ≤ which ∧ which < 256) : quitrentlaw14_EntryRefuses.f 60 a0 a1 a2 l at_ which = some true := by
  unfold quitrentlaw14_EntryRefuses.f
  obtain ⟨r, hr, hr2⟩ := great_is a0 a1 a2 l
  rw [hr]
  simp only [Option.bind_some]
  cases r with
  | true => rw [if_pos rfl]
  | false =>
    rw [if_neg (by decide)]
    cases hq : eposts a0 a1 l with
    | false =>
      rw [eput_no hq h0]
      simp only [Option.bind_some]
      rw [if_neg (by decide), quitrentlaw14_EntryRefuses.j0, if_pos rfl, if_pos rfl, goes_is]
      rfl
    | true =>
      obtain ⟨hl0, hl16, hany⟩ := eposts_facts hq
      rw [eput_ok hq h0]
      simp only [Option.bind_some]
      rw [if_pos trivial, quitrentlaw14_EntryRefuses.j0]
      rw [if_neg (by rw [beq_iff_eq]; omega)]
      simp only [Option.bind_some, List.nil_append, List.length_nil, goes_is]
      rw [if_pos (by omega), if_neg (by omega)]
      have hi := tmod_in (wrap64 at_) (l.length : Int) (by unfold wrap64; omega) (by omega)
      have hsz := rd_size hany _ hi.1 hi.2
      obtain ⟨i, hii⟩ : ∃ i, Int.tmod (wrap64 at_) (l.length : Int) = i := ⟨_, rfl⟩
      rw [hii] at hi hsz ⊢
      have hin : i.toNat < l.length := by omega
      have hw5 : Int.tmod which 5 = which % 5 := Int.tmod_eq_emod_of_nonneg hw.1
      rw [hw5]
      by_cases c0 : which % 5 = 0
      · rw [if_pos c0, if_pos hi.1, if_pos hi.2, set_put a0 a1 a2 h0 l _ _ hin (by simp [pbad])]
        rfl
      · rw [if_neg c0]
        by_cases c1 : which % 5 = 1
        · rw [if_pos c1, if_pos hi.1, if_pos hi.2, set_put a0 a1 a2 h0 l _ _ hin (by simp [pbad, Lib.toList_data])]
          rfl
        · rw [if_neg c1]
          by_cases c2 : which % 5 = 2
          · rw [if_pos c2, if_pos hi.1, if_pos hi.2, if_pos (by omega), set_put a0 a1 a2 h0 l _ _ hin (by
              unfold pbad
              have : decide (32 < (((rd_T37 l i).f0 ++ (⟨#[49, 50, 51, 52, 53, 54, 55, 56, 57, 48, 49, 50, 51, 52, 53, 54, 55, 56, 57, 48, 49, 50, 51, 52, 53, 54, 55, 56, 57, 48, 49, 50, 51]⟩ : ByteArray)).size : Int)) = true := by
                rw [ByteArray.size_append]
                have h33 : (⟨#[49, 50, 51, 52, 53, 54, 55, 56, 57, 48, 49, 50, 51, 52, 53, 54, 55, 56, 57, 48, 49, 50, 51, 52, 53, 54, 55, 56, 57, 48, 49, 50, 51]⟩ : ByteArray).size = 33 := rfl
                rw [h33]
                exact decide_eq_true (by omega)
              simp only [this, Bool.or_true, Bool.true_or])]
            rfl
          · rw [if_neg c2]
            by_cases c3 : which % 5 = 3
            · rw [if_pos c3, if_pos hi.1, if_pos hi.2, set_put a0 a1 a2 h0 l _ _ hin (by simp [pbad])]
              rfl
            · rw [if_neg c3, if_pos (by omega), eput_no (eposts_zero a1 l) ⟨by decide, by unfold top64; decide⟩]
              rfl
set_option maxRecDepth 100000 in
theorem EntryRefuses.walk {H : Type} {enc : TypeId × Value → H} {W : World} {v : Value} {d : DataW H} {p : List MemPlace} {base : Nat} (at_ which : Int) (hv : Value.okWide Try.prog W .any base 26 v)
    (h : DataW.Trod enc Try.prog W 0 (fun _ => true) true 26 v d p) (w1 : (Lit.int .u8 at_).wf = true) (w2 : (Lit.int .u8 which).wf = true) : Calls Try.prog 3 #[v, .int .u8 at_, .int .u8 which] W fun e w' => e = .returned (.bool true) ∧ Below W.heap.size W w' := by
  obtain ⟨a0, a1, a2, A, c, L, rfl, h0, _, _, hc, _, hC⟩ := posting_come hv h
  exact quitrentlaw14_EntryRefuses.calls 60 a0 a1 a2 A c L at_ which true W hC hc (refuses_f a0 a1 a2 L at_ which ⟨h0.1, by unfold top64; exact h0.2⟩ (wf_u8e _ w1) (wf_u8e _ w2))
end Go.Proofs.Ytdfmganmchmbjaa.Ext
