/- Plain law of the stable sort: insertion of blocks, merging in place by rotations. No program in sight. -/
import Derived.Test.YtimdoddaaelfjaaH
namespace Go.Proofs.Ytimdoddaaelfjaa.Ext
set_option linter.unusedVariables false
/-- x stands ahead of y: it has the greater rest, or the same and the lesser place. -/
def bf (r : Nat → Int) (x y : Nat) : Prop := r y < r x ∨ (r x = r y ∧ x < y)
theorem bf_trans {r : Nat → Int} {x y z : Nat} (h : bf r x y) (k : bf r y z) : bf r x z := by unfold bf at *; omega
theorem bf_irr {r : Nat → Int} {x : Nat} (h : bf r x x) : False := by unfold bf at h; omega
theorem bf_gt {r : Nat → Int} {x y : Nat} (hlt : x < y) : bf r y x ↔ r x < r y := by unfold bf; omega
theorem bf_le {r : Nat → Int} {x y : Nat} (hlt : x < y) : bf r x y ↔ ¬ r x < r y := by unfold bf; omega
/-- In order, from a to b. -/
def Srt (r : Nat → Int) (f : Nat → Nat) (a b : Nat) : Prop := ∀ i j, a ≤ i → i < j → j < b → bf r (f i) (f j)
/-- The same ones, from a to b; the others as they were. -/
def Sh (a b : Nat) (f' f : Nat → Nat) : Prop := (∀ i, a ≤ i → i < b → ∃ j, a ≤ j ∧ j < b ∧ f' i = f j) ∧ (∀ i, a ≤ i → i < b → ∃ j, a ≤ j ∧ j < b ∧ f i = f' j) ∧ ∀ i, (i < a ∨ b ≤ i) → f' i = f i
theorem Sh.refl (a b : Nat) (f : Nat → Nat) : Sh a b f f := ⟨fun i h k => ⟨i, h, k, rfl⟩, fun i h k => ⟨i, h, k, rfl⟩, fun _ _ => rfl⟩
theorem Sh.trans {a b : Nat} {f g h : Nat → Nat} (p : Sh a b f g) (q : Sh a b g h) : Sh a b f h := by
  refine ⟨fun i x y => ?_, fun i x y => ?_, fun i x => (p.2.2 i x).trans (q.2.2 i x)⟩
  · obtain ⟨j, j1, j2, e⟩ := p.1 i x y
    obtain ⟨k, k1, k2, e'⟩ := q.1 j j1 j2
    exact ⟨k, k1, k2, e.trans e'⟩
  · obtain ⟨j, j1, j2, e⟩ := q.2.1 i x y
    obtain ⟨k, k1, k2, e'⟩ := p.2.1 j j1 j2
    exact ⟨k, k1, k2, e.trans e'⟩
theorem Sh.wide {a b a' b' : Nat} {f g : Nat → Nat} (p : Sh a b f g) (ha : a' ≤ a) (hb : b ≤ b') : Sh a' b' f g := by
  refine ⟨fun i x y => ?_, fun i x y => ?_, fun i x => p.2.2 i (by omega)⟩
  · by_cases h : a ≤ i ∧ i < b
    · obtain ⟨j, j1, j2, e⟩ := p.1 i h.1 h.2
      exact ⟨j, by omega, by omega, e⟩
    · exact ⟨i, x, y, p.2.2 i (by omega)⟩
  · by_cases h : a ≤ i ∧ i < b
    · obtain ⟨j, j1, j2, e⟩ := p.2.1 i h.1 h.2
      exact ⟨j, by omega, by omega, e⟩
    · exact ⟨i, x, y, (p.2.2 i (by omega)).symm⟩
/-- Two places change their ones. -/
def sw (i j : Nat) (f : Nat → Nat) : Nat → Nat := fun k => if k = i then f j else if k = j then f i else f k
/-- The block of i ones that ends at m and the block of j ones that begins there change places. -/
def rot (s m e : Nat) (f : Nat → Nat) : Nat → Nat := fun k => if k < s then f k else if k < s + (e - m) then f (k + (m - s)) else if k < e then f (k - (e - m)) else f k
theorem rot_sh {s m e : Nat} (f : Nat → Nat) (h1 : s ≤ m) (h2 : m ≤ e) : Sh s e (rot s m e f) f := by
  refine ⟨fun i x y => ?_, fun i x y => ?_, fun i x => ?_⟩
  · unfold rot
    by_cases h : i < s + (e - m)
    · exact ⟨i + (m - s), by omega, by omega, by rw [if_neg (by omega), if_pos h]⟩
    · exact ⟨i - (e - m), by omega, by omega, by rw [if_neg (by omega), if_neg h, if_pos y]⟩
  · unfold rot
    by_cases h : i < m
    · refine ⟨i + (e - m), by omega, by omega, ?_⟩
      rw [if_neg (by omega), if_neg (by omega), if_pos (by omega)]
      congr 1; omega
    · refine ⟨i - (m - s), by omega, by omega, ?_⟩
      rw [if_neg (by omega), if_pos (by omega)]
      congr 1; omega
  · unfold rot
    rcases x with x | x
    · rw [if_pos x]
    · rw [if_neg (by omega), if_neg (by omega), if_neg (by omega)]
/-- While x is put in: the state of the inner loop. -/
def InsIn (r : Nat → Int) (i j : Nat) (fI f : Nat → Nat) : Prop :=
  (∀ k, k < j → f k = fI k) ∧ f j = i ∧ (∀ k, j < k → k ≤ i → f k = fI (k - 1) ∧ bf r i (fI (k - 1))) ∧ ∀ k, i < k → f k = fI k
/-- What is in order so far. -/
def InsOut (r : Nat → Int) (a i : Nat) (f0 f : Nat → Nat) : Prop := Srt r f a i ∧ Sh a i f f0
theorem InsIn.begin {r : Nat → Int} {i : Nat} {f : Nat → Nat} (h : f i = i) : InsIn r i i f f := ⟨fun _ _ => rfl, h, fun k h1 h2 => by omega, fun _ _ => rfl⟩
theorem InsIn.step {r : Nat → Int} {i j : Nat} {fI f : Nat → Nat} (h : InsIn r i j fI f) (hj : 0 < j) (hji : j ≤ i) (hb : bf r i (fI (j - 1))) : InsIn r i (j - 1) fI (sw j (j - 1) f) := by
  obtain ⟨h1, h2, h3, h4⟩ := h
  refine ⟨fun k hk => ?_, ?_, fun k hk hk2 => ?_, fun k hk => ?_⟩
  · unfold sw; rw [if_neg (by omega), if_neg (by omega)]; exact h1 k (by omega)
  · unfold sw; rw [if_neg (by omega), if_pos rfl]; exact h2
  · unfold sw
    by_cases e : k = j
    · subst e; rw [if_pos rfl]; exact ⟨h1 _ (by omega), hb⟩
    · rw [if_neg e, if_neg (by omega)]; exact h3 k (by omega) hk2
  · unfold sw; rw [if_neg (by omega), if_neg (by omega)]; exact h4 k hk
theorem InsIn.done {r : Nat → Int} {a i j : Nat} {f0 fI f : Nat → Nat} (h : InsIn r i j fI f) (h0 : InsOut r a i f0 fI) (hid : ∀ k, a ≤ k → k ≤ i → f0 k = k) (ha : a ≤ j) (hji : j ≤ i)
    (hx : j = a ∨ ¬ r (fI (j - 1)) < r i) : InsOut r a (i + 1) f0 f := by
  obtain ⟨h1, h2, h3, h4⟩ := h
  have hbd : ∀ k, a ≤ k → k < i → fI k < i := fun k hk1 hk2 => by
    obtain ⟨q, q1, q2, e⟩ := h0.2.1 k hk1 hk2
    rw [e, hid q q1 (by omega)]; exact q2
  have hbk : ∀ k, a ≤ k → k < j → bf r (fI k) i := fun k hk1 hk2 => by
    rcases hx with hx | hx
    · omega
    · have hl : bf r (fI (j - 1)) i := (bf_le (hbd (j - 1) (by omega) (by omega))).2 (by omega)
      by_cases e : k = j - 1
      · subst e; exact hl
      · exact bf_trans (h0.1 k (j - 1) hk1 (by omega) (by omega)) hl
  have hfi : fI i = i := (h0.2.2.2 i (by omega)).trans (hid i (by omega) (by omega))
  refine ⟨fun p q hp hpq hq => ?_, fun k hk1 hk2 => ?_, fun k hk1 hk2 => ?_, fun k hk => ?_⟩
  · by_cases p1 : p < j
    · rw [h1 p p1]
      by_cases q1 : q < j
      · rw [h1 q q1]; exact h0.1 p q hp hpq (by omega)
      · by_cases q2 : q = j
        · subst q2; rw [h2]; exact hbk p hp p1
        · rw [(h3 q (by omega) (by omega)).1]
          exact bf_trans (hbk p hp p1) (h3 q (by omega) (by omega)).2
    · by_cases p2 : p = j
      · subst p2; rw [h2, (h3 q (by omega) (by omega)).1]; exact (h3 q (by omega) (by omega)).2
      · rw [(h3 p (by omega) (by omega)).1, (h3 q (by omega) (by omega)).1]
        exact h0.1 _ _ (by omega) (by omega) (by omega)
  · by_cases k1 : k < j
    · obtain ⟨q, q1, q2, e⟩ := h0.2.1 k hk1 (by omega)
      exact ⟨q, q1, by omega, (h1 k k1).trans e⟩
    · by_cases k2 : k = j
      · subst k2; exact ⟨i, by omega, by omega, by rw [h2, hid i (by omega) (by omega)]⟩
      · obtain ⟨q, q1, q2, e⟩ := h0.2.1 (k - 1) (by omega) (by omega)
        exact ⟨q, q1, by omega, (h3 k (by omega) (by omega)).1.trans e⟩
  · by_cases k1 : k = i
    · subst k1; exact ⟨j, ha, by omega, by rw [h2, hid k (by omega) (by omega)]⟩
    · obtain ⟨q, q1, q2, e⟩ := h0.2.2.1 k hk1 (by omega)
      by_cases q3 : q < j
      · exact ⟨q, q1, by omega, e.trans (h1 q q3).symm⟩
      · exact ⟨q + 1, by omega, by omega, e.trans ((h3 (q + 1) (by omega) (by omega)).1.trans (by simp)).symm⟩
  · by_cases k1 : k < a
    · rw [h1 k (by omega)]; exact h0.2.2.2 k (by omega)
    · rw [h4 k (by omega)]; exact h0.2.2.2 k (by omega)
theorem InsOut.begin {r : Nat → Int} {a : Nat} {f0 : Nat → Nat} : InsOut r a (a + 1) f0 f0 := ⟨fun i j h1 h2 h3 => by omega, Sh.refl _ _ _⟩
/-- What a merge is handed: two runs in order, the places of the one below those of the other. -/
def Two (r : Nat → Int) (f : Nat → Nat) (a m b : Nat) : Prop := Srt r f a m ∧ Srt r f m b ∧ ∀ i j, a ≤ i → i < m → m ≤ j → j < b → f i < f j
/-- The merge by a rotation: what is ahead of the middle comes ahead. -/
theorem Two.cross {r : Nat → Int} {f : Nat → Nat} {a m b s e : Nat} (h : Two r f a m b) (hs : a ≤ s) (hsm : s ≤ m) (hme : m ≤ e) (heb : e ≤ b)
    (h1 : a < s → e < b → bf r (f (s - 1)) (f e)) (h2 : s < m → m < e → bf r (f (e - 1)) (f s)) :
    (∀ i j, a ≤ i → i < s + (e - m) → s + (e - m) ≤ j → j < b → bf r (rot s m e f i) (rot s m e f j)) := by
  intro i j hi1 hi2 hj1 hj2
  have le_of : ∀ p q, a ≤ p → p ≤ q → q < m → p = q ∨ bf r (f p) (f q) := fun p q x y z => by
    rcases Nat.eq_or_lt_of_le y with e | y
    · exact .inl e
    · exact .inr (h.1 p q x y z)
  have le_of2 : ∀ p q, m ≤ p → p ≤ q → q < b → p = q ∨ bf r (f p) (f q) := fun p q x y z => by
    rcases Nat.eq_or_lt_of_le y with e | y
    · exact .inl e
    · exact .inr (h.2.1 p q x y z)
  have join : ∀ {x y z t : Nat}, (x = y ∨ bf r (f x) (f y)) → bf r (f y) (f z) → (z = t ∨ bf r (f z) (f t)) → bf r (f x) (f t) := fun {x y z t} p q u => by
    rcases p with p | p <;> rcases u with u | u
    · subst p; subst u; exact q
    · subst p; exact bf_trans q u
    · subst u; exact bf_trans p q
    · exact bf_trans p (bf_trans q u)
  unfold rot
  by_cases i1 : i < s
  · rw [if_pos i1, if_neg (by omega), if_neg (by omega)]
    by_cases j1 : j < e
    · rw [if_pos j1]; exact h.1 _ _ hi1 (by omega) (by omega)
    · rw [if_neg j1]
      exact join (le_of i (s - 1) hi1 (by omega) (by omega)) (h1 (by omega) (by omega)) (le_of2 e j (by omega) (by omega) hj2)
  · rw [if_neg i1, if_pos hi2, if_neg (by omega), if_neg (by omega)]
    by_cases j1 : j < e
    · rw [if_pos j1]
      exact join (le_of2 _ (e - 1) (by omega) (by omega) (by omega)) (h2 (by omega) (by omega)) (le_of s _ (by omega) (by omega) (by omega))
    · rw [if_neg j1]; exact h.2.1 _ _ (by omega) (by omega) hj2
theorem Two.left {r : Nat → Int} {f : Nat → Nat} {a m b s e : Nat} (h : Two r f a m b) (hs : a ≤ s) (hsm : s ≤ m) (hme : m ≤ e) (heb : e ≤ b) : Two r (rot s m e f) a s (s + (e - m)) := by
  refine ⟨fun i j x y z => ?_, fun i j x y z => ?_, fun i j x y z t => ?_⟩ <;> unfold rot
  · rw [if_pos (by omega), if_pos z]; exact h.1 i j x y (by omega)
  · rw [if_neg (by omega), if_pos (by omega), if_neg (by omega), if_pos z]; exact h.2.1 _ _ (by omega) (by omega) (by omega)
  · rw [if_pos y, if_neg (by omega), if_pos t]; exact h.2.2 _ _ x (by omega) (by omega) (by omega)
theorem Two.right {r : Nat → Int} {f : Nat → Nat} {a m b s e : Nat} (h : Two r f a m b) (hs : a ≤ s) (hsm : s ≤ m) (hme : m ≤ e) (heb : e ≤ b) : Two r (rot s m e f) (s + (e - m)) e b := by
  refine ⟨fun i j x y z => ?_, fun i j x y z => ?_, fun i j x y z t => ?_⟩ <;> unfold rot
  · rw [if_neg (by omega), if_neg (by omega), if_pos (by omega), if_neg (by omega), if_neg (by omega), if_pos z]; exact h.1 _ _ (by omega) (by omega) (by omega)
  · rw [if_neg (by omega), if_neg (by omega), if_neg (by omega), if_neg (by omega), if_neg (by omega), if_neg (by omega)]; exact h.2.1 _ _ (by omega) (by omega) (by omega)
  · rw [if_neg (by omega), if_neg (by omega), if_pos y, if_neg (by omega), if_neg (by omega), if_neg (by omega)]; exact h.2.2 _ _ (by omega) (by omega) (by omega) (by omega)
theorem Srt.same {r : Nat → Int} {f f' : Nat → Nat} {a b : Nat} (h : Srt r f a b) (e : ∀ i, a ≤ i → i < b → f' i = f i) : Srt r f' a b := fun i j x y z => by
  rw [e i x (by omega), e j (by omega) z]; exact h i j x y z
theorem Two.same {r : Nat → Int} {f f' : Nat → Nat} {a m b : Nat} (h : Two r f a m b) (hm : a ≤ m ∧ m ≤ b) (e : ∀ i, a ≤ i → i < b → f' i = f i) : Two r f' a m b :=
  ⟨h.1.same fun i x y => e i x (by omega), h.2.1.same fun i x y => e i (by omega) y, fun i j x y z t => by rw [e i x (by omega), e j (by omega) t]; exact h.2.2 i j x y z t⟩
/-- Both parts in order, and each of the one ahead of each of the other: all in order. -/
theorem Srt.join {r : Nat → Int} {f g f' : Nat → Nat} {a c b : Nat} (hac : a ≤ c) (hcb : c ≤ b) (hx : ∀ i j, a ≤ i → i < c → c ≤ j → j < b → bf r (f i) (f j))
    (h1 : Srt r g a c) (s1 : Sh a c g f) (h2 : Srt r f' c b) (s2 : Sh c b f' g) : Srt r f' a b ∧ Sh a b f' f := by
  refine ⟨fun i j x y z => ?_, (s2.wide hac (Nat.le_refl _)).trans (s1.wide (Nat.le_refl _) hcb)⟩
  by_cases i1 : i < c
  · rw [s2.2.2 i (.inl i1)]
    by_cases j1 : j < c
    · rw [s2.2.2 j (.inl j1)]; exact h1 i j x y j1
    · obtain ⟨p, p1, p2, e1⟩ := s1.1 i x i1
      obtain ⟨q, q1, q2, e2⟩ := s2.1 j (by omega) z
      rw [e1, e2, s1.2.2 q (.inr q1)]
      exact hx p q p1 p2 q1 q2
  · exact h2 i j (by omega) y z
theorem Two.srt_left {r : Nat → Int} {f : Nat → Nat} {a m b : Nat} (h : Two r f a m b) (e : m ≤ a ∨ b ≤ m) (hab : a ≤ m ∧ m ≤ b) : Srt r f a b := by
  rcases e with e | e
  · obtain rfl : m = a := by omega
    exact h.2.1
  · obtain rfl : m = b := by omega
    exact h.1
theorem Two.close {r : Nat → Int} {f : Nat → Nat} {a m b : Nat} (h : Two r f a m b) (hc : a < m → m < b → bf r (f (m - 1)) (f m)) : Srt r f a b := by
  intro i j hi hij hj
  by_cases i1 : i < m
  · by_cases j1 : j < m
    · exact h.1 i j hi hij j1
    · have c := hc (by omega) (by omega)
      have c1 : bf r (f i) (f m) := by
        by_cases e : i = m - 1
        · subst e; exact c
        · exact bf_trans (h.1 i (m - 1) hi (by omega) (by omega)) c
      by_cases e : j = m
      · subst e; exact c1
      · exact bf_trans c1 (h.2.1 m j (Nat.le_refl _) (by omega) hj)
  · exact h.2.1 i j (by omega) hij hj
theorem rot_left {s m e k : Nat} {f : Nat → Nat} (h : s ≤ k) (h' : k < s + (e - m)) : rot s m e f k = f (k + (m - s)) := by unfold rot; rw [if_neg (by omega), if_pos h']
theorem rot_right {s m e k : Nat} {f : Nat → Nat} (h : s + (e - m) ≤ k) (h' : k < e) : rot s m e f k = f (k - (e - m)) := by unfold rot; rw [if_neg (by omega), if_neg (by omega), if_pos h']
theorem rot_low {s m e k : Nat} {f : Nat → Nat} (h : k < s) : rot s m e f k = f k := by unfold rot; rw [if_pos h]
theorem rot_high {s m e k : Nat} {f : Nat → Nat} (h : e ≤ k) (h2 : s ≤ m) (h3 : m ≤ e) : rot s m e f k = f k := by unfold rot; rw [if_neg (by omega), if_neg (by omega), if_neg (by omega)]
/-- One on the left: it goes behind all that come ahead of it. -/
theorem merge_one {r : Nat → Int} {f : Nat → Nat} {a i b : Nat} (h : Two r f a (a + 1) b) (h1 : a + 1 ≤ i) (h2 : i ≤ b) (hl : a + 1 < i → bf r (f (i - 1)) (f a)) (hr : i < b → bf r (f a) (f i)) :
    Srt r (rot a (a + 1) i f) a b ∧ Sh a b (rot a (a + 1) i f) f := by
  have hx := h.cross (Nat.le_refl a) (Nat.le_succ a) h1 h2 (by omega) (fun _ hh => hl hh)
  have hL := h.left (Nat.le_refl a) (Nat.le_succ a) h1 h2
  have hR := h.right (Nat.le_refl a) (Nat.le_succ a) h1 h2
  refine ⟨?_, (rot_sh f (Nat.le_succ a) h1).wide (Nat.le_refl _) h2⟩
  exact (Srt.join (c := a + (i - (a + 1))) (by omega) (by omega) hx hL.2.1 (Sh.refl _ _ _) (hR.close fun x y => by
    rw [rot_right (by omega) (by omega), rot_high (by omega) (by omega) (by omega), show i - 1 - (i - (a + 1)) = a by omega]
    exact hr y) (Sh.refl _ _ _)).1
/-- One on the right: it goes ahead of all that it comes ahead of. -/
theorem merge_last {r : Nat → Int} {f : Nat → Nat} {a i m : Nat} (h : Two r f a m (m + 1)) (h1 : a ≤ i) (h2 : i ≤ m) (hl : a < i → bf r (f (i - 1)) (f m)) (hr : i < m → bf r (f m) (f i)) :
    Srt r (rot i m (m + 1) f) a (m + 1) ∧ Sh a (m + 1) (rot i m (m + 1) f) f := by
  have hx := h.cross h1 h2 (Nat.le_succ m) (Nat.le_refl _) (by omega) (fun hh _ => hr hh)
  have hL := h.left h1 h2 (Nat.le_succ m) (Nat.le_refl _)
  have hR := h.right h1 h2 (Nat.le_succ m) (Nat.le_refl _)
  refine ⟨?_, (rot_sh f h2 (Nat.le_succ m)).wide h1 (Nat.le_refl _)⟩
  exact (Srt.join (c := i + (m + 1 - m)) (by omega) (by omega) hx (hL.close fun x y => by
    rw [rot_low (by omega), rot_left (by omega) (by omega), show i + (m - i) = m by omega]
    exact hl x) (Sh.refl _ _ _) (hR.1) (Sh.refl _ _ _)).1
/-- The walk of one to its place, to the right. -/
theorem rot_go {a k : Nat} {f : Nat → Nat} (h : a ≤ k) : sw k (k + 1) (rot a (a + 1) (k + 1) f) = rot a (a + 1) (k + 2) f := by
  funext t
  unfold sw
  by_cases e1 : t = k
  · subst e1; rw [if_pos rfl, rot_high (by omega) (by omega) (by omega), rot_left (by omega) (by omega)]; congr 1; omega
  · rw [if_neg e1]
    by_cases e2 : t = k + 1
    · subst e2; rw [if_pos rfl, rot_right (by omega) (by omega), rot_right (by omega) (by omega)]; congr 1; omega
    · rw [if_neg e2]
      by_cases e3 : t < a
      · rw [rot_low e3, rot_low e3]
      · by_cases e4 : t < k
        · rw [rot_left (by omega) (by omega), rot_left (by omega) (by omega)]
        · rw [rot_high (by omega) (by omega) (by omega), rot_high (by omega) (by omega) (by omega)]
theorem rot_none {a m : Nat} {f : Nat → Nat} (h : a ≤ m) : rot a m m f = f := by
  funext t
  by_cases e3 : t < a
  · rw [rot_low e3]
  · by_cases e4 : t < m
    · rw [rot_right (by omega) (by omega)]; congr 1; omega
    · rw [rot_high (by omega) (by omega) (by omega)]
theorem rot_none' {m e : Nat} {f : Nat → Nat} (h : m ≤ e) : rot m m e f = f := by
  funext t
  by_cases e3 : t < m
  · rw [rot_low e3]
  · by_cases e4 : t < e
    · rw [rot_left (by omega) (by omega)]; congr 1; omega
    · rw [rot_high (by omega) (by omega) (by omega)]
theorem rot_back {k m : Nat} {f : Nat → Nat} (h : k + 1 ≤ m) : sw (k + 1) k (rot (k + 1) m (m + 1) f) = rot k m (m + 1) f := by
  funext t
  unfold sw
  by_cases e1 : t = k + 1
  · subst e1; rw [if_pos rfl, rot_low (by omega), rot_right (by omega) (by omega)]; congr 1; omega
  · rw [if_neg e1]
    by_cases e2 : t = k
    · subst e2; rw [if_pos rfl, rot_left (by omega) (by omega), rot_left (by omega) (by omega)]; congr 1; omega
    · rw [if_neg e2]
      by_cases e3 : t < k
      · rw [rot_low (by omega), rot_low e3]
      · by_cases e4 : t < m + 1
        · rw [rot_right (by omega) (by omega), rot_right (by omega) (by omega)]
        · rw [rot_high (by omega) (by omega) (by omega), rot_high (by omega) (by omega) (by omega)]
/-- Two blocks of i ones change places. -/
def sr (a b i : Nat) (f : Nat → Nat) : Nat → Nat := fun k => if a ≤ k ∧ k < a + i then f (k - a + b) else if b ≤ k ∧ k < b + i then f (k - b + a) else f k
theorem sr_none {a b : Nat} {f : Nat → Nat} : sr a b 0 f = f := by
  funext t; unfold sr; rw [if_neg (by omega), if_neg (by omega)]
theorem sr_go {a b i : Nat} {f : Nat → Nat} (h : a + i < b) : sw (a + i) (b + i) (sr a b i f) = sr a b (i + 1) f := by
  funext t
  unfold sw
  by_cases e1 : t = a + i
  · subst e1
    unfold sr
    rw [if_pos rfl, if_neg (by omega), if_neg (by omega), if_pos (by omega)]; congr 1; omega
  · rw [if_neg e1]
    by_cases e2 : t = b + i
    · subst e2
      unfold sr
      rw [if_pos rfl, if_neg (by omega), if_neg (by omega), if_neg (by omega), if_pos (by omega)]; congr 1; omega
    · rw [if_neg e2]
      unfold sr
      by_cases e3 : a ≤ t ∧ t < a + i
      · rw [if_pos e3, if_pos (by omega)]
      · by_cases e4 : b ≤ t ∧ t < b + i
        · rw [if_neg e3, if_pos e4, if_neg (by omega), if_pos (by omega)]
        · rw [if_neg e3, if_neg e4, if_neg (by omega), if_neg (by omega)]
/-- While blocks change places: what is still to be rotated. -/
def RotI (m i j : Nat) (G f : Nat → Nat) : Prop :=
  (∀ k, (k < m - i ∨ m + j ≤ k) → f k = G k) ∧ (∀ k, m - i ≤ k → k < m - i + j → G k = f (k + i)) ∧ ∀ k, m - i + j ≤ k → k < m + j → G k = f (k - j)
theorem RotI.begin {s m e : Nat} {f : Nat → Nat} (h : s ≤ m) (h2 : m ≤ e) : RotI m (m - s) (e - m) (rot s m e f) f := by
  refine ⟨fun k hk => ?_, fun k h1 h2 => ?_, fun k h1 h2 => ?_⟩
  · rcases hk with hk | hk
    · rw [rot_low (by omega)]
    · rw [rot_high (by omega) h h2]
  · rw [rot_left (by omega) (by omega)]
  · rw [rot_right (by omega) (by omega)]
theorem RotI.gt {m i j : Nat} {G f : Nat → Nat} (h : RotI m i j G f) (hi : i ≤ m) (hij : j < i) : RotI m (i - j) j G (sr (m - i) m j f) := by
  obtain ⟨h1, h2, h3⟩ := h
  refine ⟨fun k hk => ?_, fun k k1 k2 => ?_, fun k k1 k2 => ?_⟩ <;> unfold sr
  · by_cases c : m - i ≤ k ∧ k < m - i + j
    · rw [if_pos c, h2 k (by omega) (by omega)]; congr 1; omega
    · rw [if_neg c, if_neg (by omega)]; exact h1 k (by omega)
  · rw [if_neg (by omega), if_pos (by omega), h3 k (by omega) (by omega)]; congr 1; omega
  · rw [if_neg (by omega), if_neg (by omega)]; exact h3 k (by omega) (by omega)
theorem RotI.lt {m i j : Nat} {G f : Nat → Nat} (h : RotI m i j G f) (hi : i ≤ m) (hij : i < j) : RotI m i (j - i) G (sr (m - i) (m + j - i) i f) := by
  obtain ⟨h1, h2, h3⟩ := h
  refine ⟨fun k hk => ?_, fun k k1 k2 => ?_, fun k k1 k2 => ?_⟩ <;> unfold sr
  · by_cases c : m + j - i ≤ k ∧ k < m + j - i + i
    · rw [if_neg (by omega), if_pos c, h3 k (by omega) (by omega)]; congr 1; omega
    · rw [if_neg (by omega), if_neg c]; exact h1 k (by omega)
  · rw [if_neg (by omega), if_neg (by omega)]; exact h2 k (by omega) (by omega)
  · rw [if_pos (by omega), h2 k (by omega) (by omega)]; congr 1; omega
theorem RotI.eq {m i : Nat} {G f : Nat → Nat} (h : RotI m i i G f) (hi : i ≤ m) : sr (m - i) m i f = G := by
  obtain ⟨h1, h2, h3⟩ := h
  funext k
  unfold sr
  by_cases c : m - i ≤ k ∧ k < m - i + i
  · rw [if_pos c, h2 k (by omega) (by omega)]; congr 1; omega
  · rw [if_neg c]
    by_cases c2 : m ≤ k ∧ k < m + i
    · rw [if_pos c2, h3 k (by omega) (by omega)]; congr 1; omega
    · rw [if_neg c2]; exact h1 k (by omega)
end Go.Proofs.Ytimdoddaaelfjaa.Ext
