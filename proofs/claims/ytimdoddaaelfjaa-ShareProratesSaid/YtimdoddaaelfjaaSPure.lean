/- Plain law of the shares: quotients, rests, who gets one more. No program in sight. -/
import Derived.Test.YtimdoddaaelfjaaSRows
namespace Go.Proofs.Ytimdoddaaelfjaa.Ext
open Go.RowKit Go.Proofs.YtimdoddaaelfjaaW.PrintWords Go.Proofs.YtimdoddaaelfjaaW.PrintLast Go.Proofs.YtimdoddaaelfjaaW.PrintMore Go.Proofs.YtimdoddaaelfjaaW.Hand
set_option linter.unusedVariables false
def qL (t all : Int) (ws : List Int) : List Int := ws.map fun w => t * w / all
def rL (t all : Int) (ws : List Int) : List Int := ws.map fun w => t * w % all
def qAt (t all : Int) (ws : List Int) (i : Nat) : Int := (qL t all ws).getD i 0
def rAt (t all : Int) (ws : List Int) (i : Nat) : Int := (rL t all ws).getD i 0
def hit (f : Nat → Nat) (m i : Nat) : Bool := (List.range m).any fun k => f k == i
def outF (q : Nat → Int) (f : Nat → Nat) (m i : Nat) : Int := q i + if hit f m i then 1 else 0
def leftOf (t all : Int) (ws : List Int) : Nat := (t - (qL t all ws).sum).toNat
def outL (t all : Int) (ws : List Int) (f : Nat → Nat) : List Int := (List.range ws.length).map (outF (qAt t all ws) f (leftOf t all ws))
theorem hit_succ (f : Nat → Nat) (m i : Nat) : hit f (m + 1) i = (hit f m i || f m == i) := by
  unfold hit; rw [List.range_succ, List.any_append]; simp
theorem hit_iff {f : Nat → Nat} {m i : Nat} : hit f m i = true ↔ ∃ k, k < m ∧ f k = i := by
  unfold hit; simp
theorem hit_zero (f : Nat → Nat) (i : Nat) : hit f 0 i = false := rfl
theorem outF_zero (q : Nat → Int) (f : Nat → Nat) : outF q f 0 = q := by
  funext i; unfold outF; rw [hit_zero]; simp
theorem outF_step {q : Nat → Int} {f : Nat → Nat} {m : Nat} (h : hit f m (f m) = false) : (fun k => if k = f m then outF q f m (f m) + 1 else outF q f m k) = outF q f (m + 1) := by
  funext k
  unfold outF
  rw [hit_succ]
  by_cases e : k = f m
  · subst e; rw [if_pos rfl, h]; simp
  · rw [if_neg e]
    have : (f m == k) = false := by rw [beq_eq_false_iff_ne]; exact fun x => e x.symm
    rw [this, Bool.or_false]
theorem Ord.inj {r : Nat → Int} {n : Nat} {f : Nat → Nat} (h : Ord r n f) {i j : Nat} (hi : i < n) (hj : j < n) (e : f i = f j) : i = j := by
  rcases Nat.lt_trichotomy i j with x | x | x
  · have := h.1 i j (Nat.zero_le _) x hj; rw [e] at this; exact (bf_irr this).elim
  · exact x
  · have := h.1 j i (Nat.zero_le _) x hi; rw [e] at this; exact (bf_irr this).elim
theorem Ord.bd {r : Nat → Int} {n : Nat} {f : Nat → Nat} (h : Ord r n f) {i : Nat} (hi : i < n) : f i < n := h.2.bd i hi
theorem Ord.onto {r : Nat → Int} {n : Nat} {f : Nat → Nat} (h : Ord r n f) {i : Nat} (hi : i < n) : ∃ q, q < n ∧ f q = i := by
  obtain ⟨q, _, q2, e⟩ := h.2.2.1 i (Nat.zero_le _) hi
  exact ⟨q, q2, e.symm⟩
theorem Ord.not_hit {r : Nat → Int} {n m : Nat} {f : Nat → Nat} (h : Ord r n f) (hm : m < n) : hit f m (f m) = false := by
  cases e : hit f m (f m) with
  | false => rfl
  | true =>
    obtain ⟨k, k1, k2⟩ := hit_iff.1 e
    have := h.inj (by omega) hm k2
    omega
theorem Ord.unique {r : Nat → Int} {n : Nat} {f f' : Nat → Nat} (h : Ord r n f) (h' : Ord r n f') : ∀ i, i < n → f i = f' i := by
  intro i
  induction i using Nat.strongRecOn with
  | ind i ih =>
    intro hi
    obtain ⟨q, q1, q2⟩ := h.onto (h'.bd hi)
    obtain ⟨p, p1, p2⟩ := h'.onto (h.bd hi)
    rcases Nat.lt_trichotomy q i with x | x | x
    · have := ih q x q1
      rw [q2] at this
      have := h'.inj hi q1 this
      omega
    · subst x; exact q2
    · rcases Nat.lt_trichotomy p i with y | y | y
      · have := ih p y p1
        rw [p2] at this
        have := h.inj p1 hi this
        omega
      · subst y; exact p2.symm
      · have a := h.1 i q (Nat.zero_le _) x q1
        have b := h'.1 i p (Nat.zero_le _) y p1
        rw [q2] at a; rw [p2] at b
        exact (bf_irr (bf_trans a b)).elim
theorem hit_same {f f' : Nat → Nat} {n m : Nat} (h : ∀ i, i < n → f i = f' i) (hm : m ≤ n) : hit f m = hit f' m := by
  induction m with
  | zero => rfl
  | succ m ih =>
    funext i
    rw [hit_succ, hit_succ, ih (by omega), h m (by omega)]
/-- The best of the first i that are still to be had. -/
def GB (r : Nat → Int) (f : Nat → Nat) (m i : Nat) (best : Int) : Prop :=
  (best = -1 ∧ ∀ k, k < i → hit f m k = true) ∨ ∃ b : Nat, best = b ∧ b < i ∧ hit f m b = false ∧ ∀ k, k < i → hit f m k = false → k = b ∨ bf r b k
theorem GB.begin {r : Nat → Int} {f : Nat → Nat} {m : Nat} : GB r f m 0 (-1) := .inl ⟨rfl, fun k h => by omega⟩
theorem GB.skip {r : Nat → Int} {f : Nat → Nat} {m i : Nat} {best : Int} (h : GB r f m i best) (hi : hit f m i = true) : GB r f m (i + 1) best := by
  rcases h with ⟨e, h⟩ | ⟨b, e, h1, h2, h3⟩
  · exact .inl ⟨e, fun k hk => by
      by_cases x : k = i
      · subst x; exact hi
      · exact h k (by omega)⟩
  · exact .inr ⟨b, e, by omega, h2, fun k hk hn => by
      by_cases x : k = i
      · subst x; rw [hi] at hn; cases hn
      · exact h3 k (by omega) hn⟩
theorem GB.first {r : Nat → Int} {f : Nat → Nat} {m i : Nat} (h : GB r f m i (-1)) (hi : hit f m i = false) : GB r f m (i + 1) i := by
  rcases h with ⟨e, h⟩ | ⟨b, e, h1, h2, h3⟩
  · exact .inr ⟨i, rfl, by omega, hi, fun k hk hn => by
      by_cases x : k = i
      · exact .inl x
      · rw [h k (by omega)] at hn; cases hn⟩
  · omega
theorem GB.better {r : Nat → Int} {f : Nat → Nat} {m i b : Nat} (h : GB r f m i (b : Int)) (hi : hit f m i = false) (hr : r b < r i) : GB r f m (i + 1) i := by
  rcases h with ⟨e, h⟩ | ⟨b', e, h1, h2, h3⟩
  · omega
  · obtain rfl : b = b' := by omega
    exact .inr ⟨i, rfl, by omega, hi, fun k hk hn => by
      by_cases x : k = i
      · exact .inl x
      · right
        rcases h3 k (by omega) hn with y | y
        · subst y; exact .inl hr
        · exact bf_trans (.inl hr) y⟩
theorem GB.worse {r : Nat → Int} {f : Nat → Nat} {m i b : Nat} (h : GB r f m i (b : Int)) (hi : hit f m i = false) (hr : ¬ r b < r i) : GB r f m (i + 1) b := by
  rcases h with ⟨e, h⟩ | ⟨b', e, h1, h2, h3⟩
  · omega
  · obtain rfl : b = b' := by omega
    exact .inr ⟨b, rfl, by omega, h2, fun k hk hn => by
      by_cases x : k = i
      · subst x; right; unfold bf; omega
      · exact h3 k (by omega) hn⟩
theorem GB.done {r : Nat → Int} {f : Nat → Nat} {m n : Nat} {best : Int} (h : GB r f m n best) (hf : Ord r n f) (hm : m < n) : best = (f m : Int) := by
  rcases h with ⟨e, h⟩ | ⟨b, e, h1, h2, h3⟩
  · have := h (f m) (hf.bd hm)
    rw [hf.not_hit hm] at this; cases this
  · obtain ⟨q, q1, q2⟩ := hf.onto h1
    rcases Nat.lt_trichotomy q m with x | x | x
    · rw [hit_iff.2 ⟨q, x, q2⟩] at h2; cases h2
    · subst x; rw [e, q2]
    · have a := hf.1 m q (Nat.zero_le _) x q1
      rw [q2] at a
      rcases h3 (f m) (hf.bd hm) (hf.not_hit hm) with y | y
      · rw [e, y]
      · exact (bf_irr (bf_trans a y)).elim
theorem GB.range {r : Nat → Int} {f : Nat → Nat} {m i : Nat} {best : Int} (h : GB r f m i best) : best = -1 ∨ ∃ b : Nat, best = b ∧ b < i ∧ hit f m b = false := by
  rcases h with ⟨e, h⟩ | ⟨b, e, h1, h2, h3⟩
  · exact .inl e
  · exact .inr ⟨b, e, h1, h2⟩
/-! ### quotients and rests -/
theorem q_all (t all : Int) (l : List Int) : all * (qL t all l).sum + (rL t all l).sum = t * l.sum := by
  induction l with
  | nil => simp [qL, rL]
  | cons w l ih =>
    have e := Int.mul_ediv_add_emod (t * w) all
    simp only [qL, rL, List.map_cons, List.sum_cons] at ih ⊢
    rw [Int.mul_add, Int.mul_add]
    omega
theorem r_nn {t all : Int} (ha : 0 < all) (l : List Int) : 0 ≤ (rL t all l).sum := by
  induction l with
  | nil => simp [rL]
  | cons w l ih =>
    have e := Int.emod_nonneg (t * w) (show all ≠ 0 by omega)
    simp only [rL, List.map_cons, List.sum_cons] at ih ⊢
    omega
theorem r_lt {t all : Int} (ha : 0 < all) (l : List Int) (h : l ≠ []) : (rL t all l).sum < all * l.length := by
  induction l with
  | nil => exact absurd rfl h
  | cons w l ih =>
    have e := Int.emod_lt_of_pos (t * w) ha
    have e0 := Int.emod_nonneg (t * w) (show all ≠ 0 by omega)
    simp only [rL, List.map_cons, List.sum_cons, List.length_cons] at ih ⊢
    rw [Int.natCast_add, Int.mul_add]
    by_cases x : l = []
    · subst x; simp; omega
    · have := ih x
      omega
theorem q_nn {t all : Int} (ht : 0 ≤ t) (ha : 0 < all) (l : List Int) (h : ∀ w ∈ l, 0 ≤ w) : 0 ≤ (qL t all l).sum ∧ ∀ q ∈ qL t all l, 0 ≤ q := by
  have : ∀ q ∈ qL t all l, 0 ≤ q := fun q hq => by
    obtain ⟨w, hw, rfl⟩ := List.mem_map.1 hq
    exact Int.ediv_nonneg (Int.mul_nonneg ht (h w hw)) (by omega)
  refine ⟨?_, this⟩
  revert this
  generalize qL t all l = k
  intro hk
  induction k with
  | nil => simp
  | cons x k ih =>
    rw [List.sum_cons]
    have := hk x (by simp)
    have := ih (fun q hq => hk q (by simp [hq]))
    omega
theorem sum_take_le (l : List Int) (h : ∀ w ∈ l, 0 ≤ w) (k : Nat) : 0 ≤ (l.take k).sum ∧ (l.take k).sum ≤ l.sum := by
  induction l generalizing k with
  | nil => simp
  | cons x l ih =>
    have hx := h x (by simp)
    have hn : 0 ≤ l.sum := by have := ih (fun w hw => h w (by simp [hw])) 0; simpa using this.2
    cases k with
    | zero => simp; omega
    | succ k =>
      have := ih (fun w hw => h w (by simp [hw])) k
      simp only [List.take_succ_cons, List.sum_cons]
      omega
theorem mem_le_sum (l : List Int) (h : ∀ w ∈ l, 0 ≤ w) (x : Int) (hx : x ∈ l) : x ≤ l.sum := by
  induction l with
  | nil => simp at hx
  | cons y l ih =>
    have hy := h y (by simp)
    have hn : 0 ≤ l.sum := by have := sum_take_le l (fun w hw => h w (by simp [hw])) 0; simpa using this.2
    rw [List.sum_cons]
    rcases List.mem_cons.1 hx with rfl | hx
    · omega
    · have := ih (fun w hw => h w (by simp [hw])) hx
      omega
theorem q_sum {t : Int} {ws : List Int} (ht : 0 ≤ t) (h : ∀ w ∈ ws, 0 ≤ w) (ha : 0 < ws.sum) :
    0 ≤ t - (qL t ws.sum ws).sum ∧ t - (qL t ws.sum ws).sum < ws.length := by
  have e := q_all t ws.sum ws
  have r0 := r_nn (t := t) ha ws
  have r1 := r_lt (t := t) ha ws (fun x => by rw [x] at ha; simp at ha)
  generalize (qL t ws.sum ws).sum = Q at *
  generalize (rL t ws.sum ws).sum = R at *
  generalize ws.sum = A at *
  have e2 : A * (t - Q) = R := by rw [Int.mul_sub, Int.mul_comm A t]; omega
  constructor
  · by_cases x : 0 ≤ t - Q
    · exact x
    · have : A * (t - Q) < 0 := Int.mul_neg_of_pos_of_neg ha (by omega)
      omega
  · by_cases x : t - Q < (ws.length : Int)
    · exact x
    · have := Int.mul_le_mul_of_nonneg_left (show (ws.length : Int) ≤ t - Q by omega) (show 0 ≤ A by omega)
      omega
/-- The answer of a split. -/
def SplitIs (t : Int) (ws l : List Int) (e : Int) : Prop :=
  if 100 < ws.length ∨ t < 0 ∨ ∃ w ∈ ws, w < 0 then l = [] ∧ e = 1
  else if ¬ I64 ws.sum then l = [] ∧ e = 30
  else if ws.sum = 0 then l = [] ∧ e = 1
  else e = 0 ∧ ∃ f, Ord (rAt t ws.sum ws) ws.length f ∧ l = outL t ws.sum ws f
theorem nn_of {ws : List Int} (h : ¬ ∃ w ∈ ws, w < 0) : ∀ w ∈ ws, 0 ≤ w := fun w hw => by
  by_cases x : 0 ≤ w
  · exact x
  · exact (h ⟨w, hw, by omega⟩).elim
theorem SplitIs.unique {t : Int} {ws l l' : List Int} {e e' : Int} (h : SplitIs t ws l e) (h' : SplitIs t ws l' e') : l = l' ∧ e = e' := by
  unfold SplitIs at h h'
  split at h
  · rename_i c
    rw [if_pos c] at h'
    exact ⟨h.1.trans h'.1.symm, h.2.trans h'.2.symm⟩
  · rename_i c
    rw [if_neg c] at h'
    split at h
    · rename_i d
      rw [if_pos d] at h'
      exact ⟨h.1.trans h'.1.symm, h.2.trans h'.2.symm⟩
    · rename_i d
      rw [if_neg d] at h'
      split at h
      · rename_i g
        rw [if_pos g] at h'
        exact ⟨h.1.trans h'.1.symm, h.2.trans h'.2.symm⟩
      · rename_i g
        rw [if_neg g] at h'
        obtain ⟨e1, f, hf, e2⟩ := h
        obtain ⟨e3, f', hf', e4⟩ := h'
        refine ⟨?_, e1.trans e3.symm⟩
        have hnn := nn_of (fun x => c (.inr (.inr x)))
        have ht : 0 ≤ t := by
          by_cases x : 0 ≤ t
          · exact x
          · exact (c (.inr (.inl (by omega)))).elim
        have hs : 0 < ws.sum := by have := sum_take_le ws hnn 0; simp at this; omega
        have hb := q_sum ht hnn hs
        rw [e2, e4]
        unfold outL
        refine List.map_congr_left fun i hi => ?_
        unfold outF
        rw [hit_same (hf.unique hf') (show leftOf t ws.sum ws ≤ ws.length by unfold leftOf; omega)]
end Go.Proofs.Ytimdoddaaelfjaa.Ext
