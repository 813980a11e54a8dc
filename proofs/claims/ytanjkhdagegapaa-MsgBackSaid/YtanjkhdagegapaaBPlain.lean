/- Requests: with one byte more, or without the last one, nothing is read. -/
import Derived.Test.YtanjkhdagegapaaEPlain
namespace Go.Proofs.Ytanjkhdagegapaa.Ext
open Go.RowKit Go.Proofs.YtanjkhdagegapaaW.PrintWords Go.Proofs.YtanjkhdagegapaaW.PrintLast Go.Proofs.YtanjkhdagegapaaW.PrintMore Go.Proofs.YtanjkhdagegapaaW.Hand Go.Proofs.Ytanjkhdagegapaa.PZ
set_option linter.unusedVariables false
/-- A reading that goes the same way when more stands behind its bytes. -/
structure Ext {α : Type} (f : Rs → α × Rs) : Prop where
  was : ∀ r, (f r).2.bad = false → r.bad = false
  ext : ∀ r ys, (f r).2.bad = false → f ⟨r.xs ++ ys, false⟩ = ((f r).1, ⟨(f r).2.xs ++ ys, false⟩)
theorem take_ext (r : Rs) (n : Nat) (ys : List Int) (h : (r.take n).2.bad = false) : (⟨r.xs ++ ys, false⟩ : Rs).take n = ((r.take n).1, ⟨(r.take n).2.xs ++ ys, false⟩) := by
  obtain ⟨h0, l, h1, h2, h3⟩ := MM.take_good r n h
  have hn : n ≤ r.xs.length := by rw [h2, List.length_take] at h3; omega
  rw [h1]
  unfold Rs.take
  rw [if_neg (by simp; omega)]
  dsimp only
  rw [List.take_append_of_le_length hn, List.drop_append_of_le_length hn, h2]
theorem take_was (r : Rs) (n : Nat) (h : (r.take n).2.bad = false) : r.bad = false := (MM.take_good r n h).1
theorem uint_t (r : Rs) : r.uint.2 = (r.take 8).2 := by unfold Rs.uint; cases r.take 8 with | mk o r' => cases o <;> rfl
theorem int_t (r : Rs) : r.int.2 = (r.take 8).2 := by unfold Rs.int; cases r.take 8 with | mk o r' => cases o <;> rfl
theorem len4_t (r : Rs) : r.len4.2 = (r.take 4).2 := by unfold Rs.len4; cases r.take 4 with | mk o r' => cases o <;> rfl
theorem byte_t (r : Rs) : r.byte.2 = (r.take 1).2 := by unfold Rs.byte; cases r.take 1 with | mk o r' => cases o <;> rfl
theorem text_t (r : Rs) : r.text.2 = (r.len4.2.take r.len4.1.toNat).2 := by unfold Rs.text; cases r.len4.2.take r.len4.1.toNat with | mk o r' => cases o <;> rfl
theorem uint_ext : Ext Rs.uint := by
  refine ⟨fun r h => take_was r 8 (by rw [← uint_t]; exact h), fun r ys h => ?_⟩
  rw [uint_t] at h
  have e := take_ext r 8 ys h
  unfold Rs.uint
  rw [e]
  cases r.take 8 with | mk o r' => cases o <;> rfl
theorem int_ext : Ext Rs.int := by
  refine ⟨fun r h => take_was r 8 (by rw [← int_t]; exact h), fun r ys h => ?_⟩
  rw [int_t] at h
  have e := take_ext r 8 ys h
  unfold Rs.int
  rw [e]
  cases r.take 8 with | mk o r' => cases o <;> rfl
theorem byte_ext : Ext Rs.byte := by
  refine ⟨fun r h => take_was r 1 (by rw [← byte_t]; exact h), fun r ys h => ?_⟩
  rw [byte_t] at h
  have e := take_ext r 1 ys h
  unfold Rs.byte
  rw [e]
  cases r.take 1 with | mk o r' => cases o <;> rfl
theorem len4_ext : Ext Rs.len4 := by
  refine ⟨fun r h => take_was r 4 (by rw [← len4_t]; exact h), fun r ys h => ?_⟩
  rw [len4_t] at h
  have e := take_ext r 4 ys h
  unfold Rs.len4
  rw [e]
  cases r.take 4 with | mk o r' => cases o <;> rfl
theorem text_ext : Ext Rs.text := by
  have w : ∀ r : Rs, r.text.2.bad = false → r.len4.2.bad = false := fun r h => take_was _ _ (by rw [← text_t]; exact h)
  refine ⟨fun r h => len4_ext.was r (w r h), fun r ys h => ?_⟩
  have h4 := len4_ext.ext r ys (w r h)
  rw [text_t] at h
  have e := take_ext _ _ ys h
  unfold Rs.text
  rw [h4]
  dsimp only
  rw [e]
  cases r.len4.2.take r.len4.1.toNat with | mk o r' => cases o <;> rfl
theorem u32_ext : Ext Rs.u32 := by
  refine ⟨fun r h => ?_, fun r ys h => ?_⟩
  · unfold Rs.u32 at h
    dsimp only at h
    split at h
    · cases h
    · exact uint_ext.was r h
  · unfold Rs.u32 at h ⊢
    dsimp only at h ⊢
    split at h
    · cases h
    · rename_i hc
      rw [uint_ext.ext r ys h]
      dsimp only
      rw [if_neg hc, if_neg hc]
theorem plan_ext (x : RQ) : Ext (rsPlan x) := by
  refine ⟨fun r h => ?_, fun r ys h => ?_⟩
  · unfold rsPlan at h
    dsimp only at h
    split at h
    · exact text_ext.was r h
    · cases h
  · unfold rsPlan at h ⊢
    dsimp only at h ⊢
    split at h
    · rename_i hc
      rw [text_ext.ext r ys h]
      dsimp only
      rw [if_pos hc, if_pos hc]
    · cases h
theorem fldTake_ext (c : Nat) (x : RQ) : Ext (fldTake c x) := by
  have mk : ∀ {α β : Type} {f : Rs → α × Rs} (g : α → β), Ext f → Ext (fun r => (g (f r).1, (f r).2)) := fun g h => ⟨h.was, fun r ys hb => by dsimp only at hb ⊢; rw [h.ext r ys hb]⟩
  unfold fldTake
  split; exact mk (fun v => { x with f1 := v }) u32_ext
  split; exact mk (fun v => { x with f2 := strOfNums v }) text_ext
  split; exact mk (fun v => { x with f3 := v }) u32_ext
  split; exact mk (fun v => { x with f4 := v }) int_ext
  split; exact mk (fun v => { x with f5 := v }) int_ext
  split; exact mk (fun v => { x with f6 := v }) int_ext
  split; exact mk (fun v => { x with f7 := strOfNums v }) text_ext
  exact plan_ext x
theorem tkAll_was (l : List Nat) : ∀ st : RQ × Rs × Bool, (tkAll l st).2.1.bad = false → st.2.1.bad = false := by
  induction l with
  | nil => intro st h; exact h
  | cons c l ih => intro st h; exact (fldTake_ext c st.1).was st.2.1 (ih _ h)
theorem tkAll_ext (l : List Nat) (ys : List Int) : ∀ st : RQ × Rs × Bool, (tkAll l st).2.1.bad = false → tkAll l (st.1, ⟨st.2.1.xs ++ ys, false⟩, st.2.2) = ((tkAll l st).1, ⟨(tkAll l st).2.1.xs ++ ys, false⟩, (tkAll l st).2.2) := by
  induction l with
  | nil => intro st h; rfl
  | cons c l ih =>
    intro st h
    have h1 := tkAll_was l (tkStep st c) h
    have e := (fldTake_ext c st.1).ext st.2.1 ys h1
    have k := ih (tkStep st c) h
    show tkAll l (tkStep (st.1, ⟨st.2.1.xs ++ ys, false⟩, st.2.2) c) = _
    have e2 : tkStep (st.1, ⟨st.2.1.xs ++ ys, false⟩, st.2.2) c = ((tkStep st c).1, ⟨(tkStep st c).2.1.xs ++ ys, false⟩, (tkStep st c).2.2) := by
      unfold tkStep
      dsimp only
      rw [e]
    rw [e2]
    exact k
theorem tkAns_ext (b ys : List Int) (s : ByteArray) (h : (tkAns b s).2.1.bad = false) : tkAns (b ++ ys) s = ((tkAns b s).1, ⟨(tkAns b s).2.1.xs ++ ys, false⟩, (tkAns b s).2.2) := by
  have h0 := tkAll_was _ _ h
  have e := byte_ext.ext ⟨b, false⟩ ys h0
  unfold tkAns
  dsimp only at e
  rw [e]
  exact tkAll_ext (sg s) ys _ h
theorem good_iff (b : List Int) (s : ByteArray) (h : tkGood b s = true) : (tkAns b s).2.1.bad = false ∧ (tkAns b s).2.1.xs = [] := by
  unfold tkGood at h
  rw [Bool.and_eq_true, beq_iff_eq] at h
  exact MM.done_zero h.1
/-- What is taken whole is taken no longer with more behind it. -/
theorem good_app (b ys : List Int) (s : ByteArray) (hy : ys ≠ []) (h : tkGood b s = true) : tkGood (b ++ ys) s = false := by
  obtain ⟨h1, h2⟩ := good_iff b s h
  unfold tkGood
  rw [tkAns_ext b ys s h1, h2]
  dsimp only
  have : ({ xs := ([] : List Int) ++ ys, bad := false } : Rs).done = 21 := by
    unfold Rs.done
    rw [if_pos (.inr (by cases ys with | nil => exact absurd rfl hy | cons a b => simp))]
  rw [this]
  rfl
theorem mget_app {b ys : List Int} (hb : b ≠ []) (hy : ys ≠ []) (h : tkGood b (signsOf (rd b 0)) = true) : mget (b ++ ys) = (rqNil, 21) := by
  have hr : rd (b ++ ys) 0 = rd b 0 := by cases b with | nil => exact absurd rfl hb | cons a t => rfl
  unfold mget
  rw [if_neg (by cases b with | nil => exact absurd rfl hb | cons a t => simp), hr, good_app b ys _ hy h, Bool.and_false, if_neg (by decide)]
theorem mget_ok (b : List Int) : (mget b = (rqNil, 21)) ∨ (b ≠ [] ∧ tkGood b (signsOf (rd b 0)) = true ∧ isKind (rd b 0) = true) := by
  unfold mget
  by_cases h0 : b.length = 0
  · rw [if_pos h0]; exact .inl rfl
  · rw [if_neg h0]
    by_cases h1 : (isKind (rd b 0) && tkGood b (signsOf (rd b 0))) = true
    · right
      rw [Bool.and_eq_true] at h1
      exact ⟨fun e => h0 (by rw [e]; rfl), h1.2, h1.1⟩
    · rw [if_neg h1]; exact .inl rfl
/-- Without the last byte, and with one more, the bytes of a request are none. -/
theorem mget_less {x : RQ} (h : RqOk x) (hx : PlR x) (hk : (mput x).2 = 0) : mget ((putB x).take ((putB x).length - 1)) = (rqNil, 21) := by
  obtain ⟨h1, h2, h3, h4⟩ := mput_ok hx hk
  obtain ⟨e1, e2⟩ := putB_rd h
  rcases mget_ok ((putB x).take ((putB x).length - 1)) with r | ⟨hb, hg, hi⟩
  · exact r
  · exfalso
    have hz := good_app _ ((putB x).drop ((putB x).length - 1)) _ (by
      intro e
      have := congrArg List.length e
      rw [List.length_drop] at this
      simp at this
      omega) hg
    rw [List.take_append_drop] at hz
    have hr : rd ((putB x).take ((putB x).length - 1)) 0 = rd (putB x) 0 := by
      cases hp : putB x with
      | nil => rw [hp] at e1; exact absurd rfl e1
      | cons a t =>
        cases t with
        | nil => rw [hp] at hb; exact absurd rfl hb
        | cons a' t' => rfl
    rw [hr, e2, h2] at hz
    cases hz
theorem mget_more {x : RQ} (h : RqOk x) (hx : PlR x) (hk : (mput x).2 = 0) (m : Int) : mget (putB x ++ [m]) = (rqNil, 21) := by
  obtain ⟨h1, h2, h3, h4⟩ := mput_ok hx hk
  obtain ⟨e1, e2⟩ := putB_rd h
  exact mget_app (fun e => e1 (by rw [e]; rfl)) (by simp) (by rw [e2]; exact h2)
end Go.Proofs.Ytanjkhdagegapaa.Ext
