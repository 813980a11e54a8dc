/- Requests: what was put is read again. -/
import Derived.Test.YtanjkhdagegapaaG6
import Derived.Test.YtanjkhdagegapaaExtE
namespace Go.Proofs.Ytanjkhdagegapaa.Ext
open Go.RowKit Go.Proofs.YtanjkhdagegapaaW.PrintWords Go.Proofs.YtanjkhdagegapaaW.PrintLast Go.Proofs.YtanjkhdagegapaaW.PrintMore Go.Proofs.YtanjkhdagegapaaW.Hand Go.Proofs.Ytanjkhdagegapaa.PZ
set_option linter.unusedVariables false
theorem str_toList_inj {a b : ByteArray} (h : a.toList = b.toList) : a = b := by
  have h1 : a.data.toList = b.data.toList := by rw [ByteArray.toList_eq, ByteArray.toList_eq] at h; exact h
  cases a; cases b
  simp only at h1
  congr
  exact Array.toList_inj.1 h1
/-- The numbers and texts of a plan are what they are. -/
def PlR (x : RQ) : Prop := x.f8.f0 ≤ 4294967295
theorem plan_inj {x y : RQ} (hx : PlR x) (hy : PlR y) (h : putTail x y = true) : x.f8 = y.f8 := by
  unfold putTail at h
  rw [Bool.or_eq_true] at h
  rcases h with h | h
  · rw [Bool.and_eq_true] at h
    obtain ⟨h1, h2⟩ := h
    have e : ∀ z : RQ, plainB z = true → z.f8 = ⟨0, 0, 0, 0, 0, 0, []⟩ := by
      intro z hz
      unfold plainB at hz
      simp only [Bool.and_eq_true, beq_iff_eq] at hz
      obtain ⟨z0, z1, z2, z3, z4, z5, z6⟩ := hz
      have z6' : z.f8.f6 = [] := List.length_eq_zero_iff.1 (by omega)
      cases hz8 : z.f8
      rw [hz8] at z0 z1 z2 z3 z4 z5 z6'
      simp only at z0 z1 z2 z3 z4 z5 z6'
      subst z0; subst z1; subst z2; subst z3; subst z4; subst z5; subst z6'
      rfl
    rw [e x h1, e y h2]
  · rw [Bool.and_eq_true, decide_eq_true_eq, beq_iff_eq] at h
    obtain ⟨h1, h2⟩ := h
    have hs : (rqPut x).1 = (rqPut y).1 := by
      have := congrArg bytesOf (str_toList_inj h2)
      have bx : ∀ z : RQ, ∀ v ∈ (rqPut z).1, IsByte v := by
        intro z
        unfold rqPut pput
        split
        · exact bytes8_bytes _
        · intro v hv; cases hv
      rwa [MM.str_nums _ (bx x), MM.str_nums _ (bx y)] at this
    have kx : rqChk x = true := by
      cases hk : rqChk x with
      | true => rfl
      | false => exfalso; unfold rqPut pput at h1; unfold rqChk at hk; rw [if_neg (by rw [hk]; decide)] at h1; simp at h1
    have ky : rqChk y = true := by
      cases hk : rqChk y with
      | true => rfl
      | false => exfalso; rw [hs] at h1; unfold rqPut pput at h1; unfold rqChk at hk; rw [if_neg (by rw [hk]; decide)] at h1; simp at h1
    unfold rqPut pput at hs
    unfold rqChk at kx ky
    rw [if_pos kx, if_pos ky] at hs
    dsimp only at hs
    have px := pget_rest x.f8.f0 x.f8.f1 x.f8.f2 x.f8.f3 x.f8.f4 x.f8.f5 x.f8.f6 [] hx kx
    have py := pget_rest y.f8.f0 y.f8.f1 y.f8.f2 y.f8.f3 y.f8.f4 y.f8.f5 y.f8.f6 [] hy ky
    rw [if_pos rfl, List.append_nil] at px py
    rw [hs, py] at px
    simp only [Prod.mk.injEq] at px
    cases hx8 : x.f8
    cases hy8 : y.f8
    rw [hx8, hy8] at px
    simp only at px
    obtain ⟨e0, e1, e2, e3, e4, e5, e6, _⟩ := px
    subst e0; subst e1; subst e2; subst e3; subst e4; subst e5; subst e6
    rfl
theorem same_eq {x y : RQ} (hx : PlR x) (hy : PlR y) (h : sameB x y = true) : x = y := by
  unfold sameB at h
  simp only [Bool.and_eq_true, beq_iff_eq] at h
  obtain ⟨h0, h1, h2, h3, h4, h5, h6, h7, h8⟩ := h
  have e2 := str_toList_inj h2
  have e7 := str_toList_inj h7
  have e8 := plan_inj hx hy h8
  cases x; cases y
  simp only at h0 h1 e2 h3 h4 h5 h6 e7 e8
  subst h0; subst h1; subst e2; subst h3; subst h4; subst h5; subst h6; subst e7; subst e8
  rfl
theorem pget_le (l : List Int) : (pget l).1 ≤ 4294967295 := by
  unfold pget
  dsimp only
  split
  · decide
  · split
    · dsimp only; omega
    · decide
theorem fldTake_pl (c : Nat) (x : RQ) (rs : Rs) (h : PlR x) : PlR (fldTake c x rs).1 := by
  unfold fldTake
  split; exact h
  split; exact h
  split; exact h
  split; exact h
  split; exact h
  split; exact h
  split; exact h
  exact pget_le _
theorem tkAll_pl (l : List Nat) : ∀ st : RQ × Rs × Bool, PlR st.1 → PlR (tkAll l st).1 := by
  induction l with
  | nil => intro st h; exact h
  | cons c l ih => intro st h; exact ih _ (fldTake_pl c _ _ h)
theorem tkAns_pl (l : List Int) (s : ByteArray) : PlR (tkAns l s).1 := tkAll_pl _ _ (by show (0 : Int) ≤ 4294967295; decide)
theorem mput_ok {x : RQ} (hx : PlR x) (hk : (mput x).2 = 0) : isKind x.f0 = true ∧ tkGood (putB x) (signsOf x.f0) = true ∧ (tkAns (putB x) (signsOf x.f0)).1 = x ∧ mput x = (putB x, 0) := by
  unfold mput at hk ⊢
  by_cases h1 : isKind x.f0 = true
  · rw [if_pos h1] at hk ⊢
    by_cases h2 : (tkGood (putB x) (signsOf x.f0) && sameB (tkAns (putB x) (signsOf x.f0)).1 x) = true
    · rw [if_pos h2]
      rw [Bool.and_eq_true] at h2
      exact ⟨h1, h2.1, same_eq (tkAns_pl _ _) hx h2.2, rfl⟩
    · rw [if_neg h2] at hk; simp at hk
  · rw [if_neg h1] at hk; simp at hk
theorem mput_no {x : RQ} (hk : (mput x).2 ≠ 0) : mput x = ([], 1) := by
  unfold mput at hk ⊢
  by_cases h1 : isKind x.f0 = true
  · rw [if_pos h1] at hk ⊢
    by_cases h2 : (tkGood (putB x) (signsOf x.f0) && sameB (tkAns (putB x) (signsOf x.f0)).1 x) = true
    · rw [if_pos h2] at hk; exact absurd rfl hk
    · rw [if_neg h2]
  · rw [if_neg h1]
theorem putB_rd {x : RQ} (h : RqOk x) : (putB x).length ≠ 0 ∧ rd (putB x) 0 = x.f0 := by
  have hk := h.k0
  unfold putB
  refine ⟨by rw [List.length_append, beN_length]; omega, ?_⟩
  simp only [beN, rd]
  simp
  omega
theorem mget_mput {x : RQ} (h : RqOk x) (hx : PlR x) (hk : (mput x).2 = 0) : mput x = (putB x, 0) ∧ mget (putB x) = (x, 0) := by
  obtain ⟨h1, h2, h3, h4⟩ := mput_ok hx hk
  obtain ⟨e1, e2⟩ := putB_rd h
  refine ⟨h4, ?_⟩
  unfold mget
  rw [if_neg e1, e2, if_pos (by rw [h1, h2]; rfl), h3]
theorem same13 (a0 a1 a2 a3 a4 a5 : Int) (ls : List S39) (hx : ls.length ≤ 1000) : ∀ (d i k : Nat), i + d = ls.length → d < k → p_quitrentref13_Same.l0 k (i : Int) a0 a1 a2 a3 a4 a5 ls a0 a1 a2 a3 a4 a5 ls = some true := by
  intro d
  induction d with
  | zero =>
    intro i k hi hk
    obtain ⟨k, rfl⟩ : ∃ m, k = m + 1 := ⟨k - 1, by omega⟩
    simp only [p_quitrentref13_Same.l0]
    rw [if_neg (by omega)]
  | succ d ih =>
    intro i k hi hk
    obtain ⟨k, rfl⟩ : ∃ m, k = m + 1 := ⟨k - 1, by omega⟩
    simp only [p_quitrentref13_Same.l0]
    rw [if_pos (by omega), if_pos (by omega), if_pos (by omega), if_neg (by simp), show wrap64 ((i : Int) + 1) = ((i + 1 : Nat) : Int) by unfold wrap64; omega]
    exact ih (i + 1) k (by omega) (by omega)
theorem same_self (x : RQ) (h : x.f8.f6.length ≤ 1000) : quitrentref25_Same.f x.f0 x.f1 x.f2 x.f3 x.f4 x.f5 x.f6 x.f7 x.f8.f0 x.f8.f1 x.f8.f2 x.f8.f3 x.f8.f4 x.f8.f5 x.f8.f6 x.f0 x.f1 x.f2 x.f3 x.f4 x.f5 x.f6 x.f7 x.f8.f0 x.f8.f1 x.f8.f2 x.f8.f3 x.f8.f4 x.f8.f5 x.f8.f6 = some true := by
  unfold quitrentref25_Same.f p_quitrentref25_Same.f p_quitrentref13_Same.f
  rw [if_pos rfl, if_pos rfl, if_pos rfl, if_pos rfl, if_pos rfl, if_pos rfl, if_pos rfl, if_pos rfl, if_pos rfl, if_pos rfl, if_pos rfl, if_pos rfl, if_pos rfl, if_pos rfl]
  have hj : p_quitrentref13_Same.j0 (1999 + 1) ((x.f8.f6.length : Int) != (x.f8.f6.length : Int)) x.f8.f0 x.f8.f1 x.f8.f2 x.f8.f3 x.f8.f4 x.f8.f5 x.f8.f6 x.f8.f0 x.f8.f1 x.f8.f2 x.f8.f3 x.f8.f4 x.f8.f5 x.f8.f6 = some true := by
    simp only [p_quitrentref13_Same.j0]
    rw [if_neg (by simp)]
    exact same13 _ _ _ _ _ _ _ h x.f8.f6.length 0 1999 (by omega) (by omega)
  rw [show (2000 : Nat) = 1999 + 1 from rfl, hj]
  rfl
theorem put_f {x : RQ} (h : RqOk x) : msg_PutRequest.f x.f0 x.f1 x.f2 x.f3 x.f4 x.f5 x.f6 x.f7 x.f8.f0 x.f8.f1 x.f8.f2 x.f8.f3 x.f8.f4 x.f8.f5 x.f8.f6 = some (mput x) := by
  unfold msg_PutRequest.f
  exact if_pos (rqOkB_iff.2 h)
theorem get_f {x : RQ} (h : RqOk x) (hx : PlR x) (hk : (mput x).2 = 0) : msg_GetRequest.f (putB x) = some (x.f0, x.f1, x.f2, x.f3, x.f4, x.f5, x.f6, x.f7, x.f8.f0, x.f8.f1, x.f8.f2, x.f8.f3, x.f8.f4, x.f8.f5, x.f8.f6, 0) := by
  have hl := putB_len h
  unfold msg_GetRequest.f
  rw [if_pos ⟨byOk_of (putB_bytes x), by omega⟩, (mget_mput h hx hk).2]
end Go.Proofs.Ytanjkhdagegapaa.Ext
