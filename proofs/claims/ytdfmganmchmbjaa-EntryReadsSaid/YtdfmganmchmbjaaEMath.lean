/- Plain facts on what readers take: what was put comes back; what is read without fault is what was put. -/
import Derived.Test.YtdfmganmchmbjaaEGet3
import Derived.Test.YtdfmganmchmbjaaBeMath
namespace Go.Proofs.Ytdfmganmchmbjaa.Ext
open Go.RowKit Go.Proofs.YtdfmganmchmbjaaW.PrintWords Go.Proofs.YtdfmganmchmbjaaW.PrintLast Go.Proofs.YtdfmganmchmbjaaW.PrintMore Go.Proofs.YtdfmganmchmbjaaW.Hand Go.Proofs.Ytdfmganmchmbjaa.PZ
set_option linter.unusedVariables false
theorem str_nums (l : List Int) (h : ∀ x ∈ l, IsByte x) : bytesOf (strOfNums l) = l := by
  unfold bytesOf
  rw [strOfNums_data, List.map_map]
  conv => rhs; rw [← List.map_id l]
  refine List.map_congr_left fun x hx => ?_
  have := h x hx
  unfold IsByte at this
  simp only [Function.comp_apply, id_eq, UInt8.toNat_ofNat']
  omega
theorem small_app (v : Int) (b : List Int) (h0 : 0 ≤ v) (h : v < 4294967296) : (⟨beN 8 v ++ b, false⟩ : Rs).small = (v, ⟨b, false⟩) := by
  unfold Rs.small
  rw [uint_app v b h0 (by omega)]
  dsimp only
  rw [if_neg (by omega), Int.emod_eq_of_lt h0 h]
theorem count_app (v : Int) (m : Int) (b : List Int) (h0 : 0 ≤ v) (h : v ≤ m) (hm : m < 18446744073709551616) : (⟨beN 8 v ++ b, false⟩ : Rs).count m = (v, ⟨b, false⟩) := by
  unfold Rs.count
  rw [uint_app v b h0 (by omega)]
  dsimp only
  rw [if_neg (by omega)]
theorem relems_app {α : Type} (f : Rs → α × Rs) (enc : α → List Int) (L : List α) (rest : List Int) (h : ∀ x ∈ L, ∀ b, f ⟨enc x ++ b, false⟩ = (x, ⟨b, false⟩)) : ∀ k, k ≤ L.length → relems f ⟨(L.map enc).flatten ++ rest, false⟩ k = (L.take k, ⟨((L.drop k).map enc).flatten ++ rest, false⟩) := by
  intro k
  induction k with
  | zero => intro _; simp [relems]
  | succ k ih =>
    intro hk
    have hd : L.drop k = L[k] :: L.drop (k + 1) := List.drop_eq_getElem_cons (by omega)
    simp only [relems]
    rw [ih (by omega), hd]
    dsimp only
    rw [List.map_cons, List.flatten_cons, List.append_assoc, h _ (List.getElem_mem _)]
    dsimp only
    rw [List.take_add_one, List.getElem?_eq_getElem (by omega)]
    rfl
theorem relems_all {α : Type} (f : Rs → α × Rs) (enc : α → List Int) (L : List α) (rest : List Int) (h : ∀ x ∈ L, ∀ b, f ⟨enc x ++ b, false⟩ = (x, ⟨b, false⟩)) : relems f ⟨(L.map enc).flatten ++ rest, false⟩ L.length = (L, ⟨rest, false⟩) := by
  rw [relems_app f enc L rest h _ (Nat.le_refl _)]
  simp
theorem top_emod_wrap (v : Int) (h0 : 0 ≤ v) (h1 : v < top64) : wrap64 v % top64 = v := by
  unfold wrap64 top64 at *
  omega
/-- A reading that leaves the reader sound began with a sound one, and took what its bytes say. -/
structure Good {α : Type} (f : Rs → α × Rs) (enc : α → List Int) (P : α → Prop) : Prop where
  was : ∀ r, (f r).2.bad = false → r.bad = false
  took : ∀ r, (∀ x ∈ r.xs, IsByte x) → (f r).2.bad = false → r.xs = enc (f r).1 ++ (f r).2.xs ∧ P (f r).1
theorem Good.rest {α : Type} {f : Rs → α × Rs} {enc : α → List Int} {P : α → Prop} (h : Good f enc P) {r : Rs} (hb : ∀ x ∈ r.xs, IsByte x) (h1 : (f r).2.bad = false) : ∀ x ∈ (f r).2.xs, IsByte x := fun x hx => hb x (by rw [(h.took r hb h1).1]; exact List.mem_append_right _ hx)
theorem take_good (r : Rs) (n : Nat) (h : (r.take n).2.bad = false) : r.bad = false ∧ ∃ l, r.take n = (some l, ⟨r.xs.drop n, false⟩) ∧ l = r.xs.take n ∧ l.length = n := by
  unfold Rs.take at h ⊢
  by_cases hc : r.bad = true ∨ r.xs.length < n
  · rw [if_pos hc] at h; cases h
  · rw [if_neg hc]
    have hc' : r.bad = false ∧ n ≤ r.xs.length := by
      constructor
      · cases hb : r.bad
        · rfl
        · exact absurd (Or.inl hb) hc
      · omega
    exact ⟨hc'.1, _, rfl, rfl, by rw [List.length_take]; omega⟩
theorem take_parts {l : List Int} {n : Nat} (h : ∀ x ∈ l, IsByte x) (hl : (l.take n).length = n) : beN n (beVal (l.take n)) = l.take n ∧ (0 ≤ beVal (l.take n) ∧ beVal (l.take n) < 256 ^ n) := by
  have h1 : ∀ x ∈ l.take n, IsByte x := fun x hx => h x (List.mem_of_mem_take hx)
  have hbe := beN_beVal _ h1
  have hv := beVal_lt _ h1
  rw [hl] at hbe hv
  exact ⟨hbe, hv⟩
theorem uint_good : Good Rs.uint (beN 8) (fun v => 0 ≤ v ∧ v < top64) := by
  refine ⟨fun r h => ?_, fun r hb h => ?_⟩
  · by_cases hb : (r.take 8).2.bad = false
    · exact (take_good r 8 hb).1
    · exfalso; unfold Rs.uint at h; cases ht : r.take 8 with | mk o r' => rw [ht] at h hb; cases o <;> exact hb h
  · have ht : (r.take 8).2.bad = false := by unfold Rs.uint at h; cases ht : r.take 8 with | mk o r' => rw [ht] at h; cases o <;> exact h
    obtain ⟨_, l, h1, h2, h3⟩ := take_good r 8 ht
    have e : r.uint = (beVal l, ⟨r.xs.drop 8, false⟩) := by unfold Rs.uint; rw [h1]
    rw [e]
    subst h2
    have hp := take_parts hb h3
    exact ⟨by dsimp only; rw [hp.1, List.take_append_drop], hp.2.1, Int.lt_of_lt_of_le hp.2.2 (by decide)⟩
theorem int_good : Good Rs.int (fun v => beN 8 (v % top64)) (fun v => -9223372036854775808 ≤ v ∧ v ≤ 9223372036854775807) := by
  refine ⟨fun r h => ?_, fun r hb h => ?_⟩
  · by_cases hb : (r.take 8).2.bad = false
    · exact (take_good r 8 hb).1
    · exfalso; unfold Rs.int at h; cases ht : r.take 8 with | mk o r' => rw [ht] at h hb; cases o <;> exact hb h
  · have ht : (r.take 8).2.bad = false := by unfold Rs.int at h; cases ht : r.take 8 with | mk o r' => rw [ht] at h; cases o <;> exact h
    obtain ⟨_, l, h1, h2, h3⟩ := take_good r 8 ht
    have e : r.int = (wrap64 (beVal l), ⟨r.xs.drop 8, false⟩) := by unfold Rs.int; rw [h1]
    rw [e]
    subst h2
    have hp := take_parts hb h3
    refine ⟨by dsimp only; rw [top_emod_wrap _ hp.2.1 (Int.lt_of_lt_of_le hp.2.2 (by decide)), hp.1, List.take_append_drop], ?_⟩
    dsimp only
    unfold wrap64
    omega
theorem byte_good : Good Rs.byte (beN 1) (fun v => 0 ≤ v ∧ v < 256) := by
  refine ⟨fun r h => ?_, fun r hb h => ?_⟩
  · by_cases hb : (r.take 1).2.bad = false
    · exact (take_good r 1 hb).1
    · exfalso; unfold Rs.byte at h; cases ht : r.take 1 with | mk o r' => rw [ht] at h hb; cases o <;> exact hb h
  · have ht : (r.take 1).2.bad = false := by unfold Rs.byte at h; cases ht : r.take 1 with | mk o r' => rw [ht] at h; cases o <;> exact h
    obtain ⟨_, l, h1, h2, h3⟩ := take_good r 1 ht
    have e : r.byte = (rd l 0, ⟨r.xs.drop 1, false⟩) := by unfold Rs.byte; rw [h1]
    rw [e]
    have hl : ∃ c, l = [c] := by
      match l, h3 with
      | [c], _ => exact ⟨c, rfl⟩
    obtain ⟨c, rfl⟩ := hl
    have hc : IsByte c := hb c (List.mem_of_mem_take (by rw [← h2]; simp))
    have hx : r.xs = c :: r.xs.drop 1 := by
      conv => lhs; rw [← List.take_append_drop 1 r.xs, ← h2]
      rfl
    have e1 : beN 1 c = [c] := by
      have := beN_beVal [c] (by intro x hx; rw [List.mem_singleton.1 hx]; exact hc)
      rw [show beVal [c] = c by simp [beVal]] at this
      exact this
    refine ⟨?_, hc⟩
    show r.xs = beN 1 c ++ r.xs.drop 1
    rw [e1]
    exact hx
theorem small_good : Good Rs.small (fun v => beN 8 v) (fun v => 0 ≤ v ∧ v < 4294967296) := by
  have key : ∀ r : Rs, r.small.2.bad = false → r.uint.2.bad = false ∧ ¬ 4294967295 < r.uint.1 := by
    intro r h
    unfold Rs.small at h
    by_cases hb : 4294967295 < r.uint.1
    · rw [if_pos hb] at h; cases h
    · rw [if_neg hb] at h; exact ⟨h, hb⟩
  refine ⟨fun r h => uint_good.was r (key r h).1, fun r hb h => ?_⟩
  obtain ⟨h1, h2⟩ := key r h
  obtain ⟨h3, h4⟩ := uint_good.took r hb h1
  unfold Rs.small
  dsimp only at h4 ⊢
  rw [if_neg h2, Int.emod_eq_of_lt h4.1 (by omega)]
  exact ⟨h3, h4.1, by omega⟩
theorem count_good (m : Int) : Good (fun r => r.count m) (beN 8) (fun v => 0 ≤ v ∧ v ≤ m) := by
  have key : ∀ r : Rs, (r.count m).2.bad = false → r.uint.2.bad = false ∧ ¬ (m < 0 ∨ m < r.uint.1) := by
    intro r h
    unfold Rs.count at h
    by_cases hb : m < 0 ∨ m < r.uint.1
    · rw [if_pos hb] at h; cases h
    · rw [if_neg hb] at h; exact ⟨h, hb⟩
  refine ⟨fun r h => uint_good.was r (key r h).1, fun r hb h => ?_⟩
  obtain ⟨h1, h2⟩ := key r h
  obtain ⟨h3, h4⟩ := uint_good.took r hb h1
  unfold Rs.count
  rw [if_neg h2]
  exact ⟨h3, h4.1, by omega⟩
theorem text_good : Good Rs.text (fun s => beN 4 s.length ++ s) (fun s => (∀ x ∈ s, IsByte x) ∧ (s.length : Int) < 4294967296) := by
  have k1 : ∀ r : Rs, r.text.2.bad = false → (r.len4.2.take r.len4.1.toNat).2.bad = false := by
    intro r h
    unfold Rs.text at h
    cases ht : r.len4.2.take r.len4.1.toNat with | mk o r' => rw [ht] at h; cases o <;> exact h
  have k2 : ∀ r : Rs, r.len4.2.bad = false → (r.take 4).2.bad = false := by
    intro r h
    unfold Rs.len4 at h
    cases ht : r.take 4 with | mk o r' => rw [ht] at h; cases o <;> exact h
  refine ⟨fun r h => (take_good r 4 (k2 r (take_good _ _ (k1 r h)).1)).1, fun r hb h => ?_⟩
  obtain ⟨h4, l, e1, e2, e3⟩ := take_good _ _ (k1 r h)
  obtain ⟨_, m, f1, f2, f3⟩ := take_good r 4 (k2 r h4)
  have el : r.len4 = (beVal m, ⟨r.xs.drop 4, false⟩) := by unfold Rs.len4; rw [f1]
  have et : r.text = (l, ⟨r.len4.2.xs.drop r.len4.1.toNat, false⟩) := by unfold Rs.text; rw [e1]
  rw [et]
  rw [el] at e2 e3 ⊢
  dsimp only at e2 e3 ⊢
  subst f2
  have hp := take_parts hb f3
  have hn : ((beVal (r.xs.take 4)).toNat : Int) = beVal (r.xs.take 4) := by omega
  refine ⟨?_, fun x hx => hb x (List.mem_of_mem_drop (List.mem_of_mem_take (by rw [← e2]; exact hx))), by rw [e3, hn]; exact Int.lt_of_lt_of_le hp.2.2 (by decide)⟩
  rw [e3, hn, hp.1, e2, List.append_assoc, List.take_append_drop, List.take_append_drop]
theorem relems_good {α : Type} {f : Rs → α × Rs} {enc : α → List Int} {P : α → Prop} (h : Good f enc P) (r : Rs) (hb : ∀ x ∈ r.xs, IsByte x) : ∀ k, (relems f r k).2.bad = false → r.bad = false ∧ r.xs = ((relems f r k).1.map enc).flatten ++ (relems f r k).2.xs ∧ (∀ x ∈ (relems f r k).1, P x) ∧ ∀ x ∈ (relems f r k).2.xs, IsByte x := by
  intro k
  induction k with
  | zero => intro h0; exact ⟨h0, by simp [relems], by simp [relems], hb⟩
  | succ k ih =>
    intro h1
    simp only [relems] at h1 ⊢
    obtain ⟨i1, i2, i3, i4⟩ := ih (h.was _ h1)
    obtain ⟨t1, t2⟩ := h.took _ i4 h1
    refine ⟨i1, ?_, ?_, h.rest i4 h1⟩
    · rw [List.map_append, List.flatten_append, List.map_singleton, List.flatten_singleton, List.append_assoc, ← t1]
      exact i2
    · intro x hx
      rcases List.mem_append.1 hx with hx | hx
      · exact i3 x hx
      · rw [List.mem_singleton.1 hx]; exact t2
theorem done_zero {r : Rs} (h : r.done = 0) : r.bad = false ∧ r.xs = [] := by
  unfold Rs.done at h
  by_cases hc : r.bad = true ∨ 0 < r.xs.length
  · rw [if_pos hc] at h; omega
  · refine ⟨?_, ?_⟩
    · cases hb : r.bad
      · rfl
      · exact absurd (Or.inl hb) hc
    · cases hx : r.xs with
      | nil => rfl
      | cons a b => exact absurd (Or.inr (by rw [hx]; simp)) hc
end Go.Proofs.Ytdfmganmchmbjaa.Ext
