/- The plain law of the check: bytes as one number, the register's steps are linear, and nothing below 2^32 but 0 steps to 0. -/
import Derived.Test.YtddajglkefpjdaaCrc3
import Derived.Test.YtddajglkefpjdaaRead
namespace Go.Proofs.Ytddajglkefpjdaa.Ext
set_option linter.unusedVariables false

theorem xor_zero_iff (a b : Nat) : a ^^^ b = 0 ↔ a = b := by
  constructor
  · intro h
    have := congrArg (· ^^^ b) h
    simp only [Nat.xor_assoc, Nat.xor_self, Nat.xor_zero, Nat.zero_xor] at this
    exact this
  · rintro rfl; exact Nat.xor_self _
theorem xor_two (a b : Nat) : (a ^^^ b) % 2 = (a % 2 + b % 2) % 2 := by
  have h := @Nat.xor_mod_two_eq_one a b
  rcases Nat.mod_two_eq_zero_or_one a with ha | ha <;> rcases Nat.mod_two_eq_zero_or_one b with hb | hb <;> rcases Nat.mod_two_eq_zero_or_one (a ^^^ b) with hc | hc <;> simp_all
theorem xor_left (a b c : Nat) : a ^^^ (b ^^^ c) = b ^^^ (a ^^^ c) := by rw [← Nat.xor_assoc, Nat.xor_comm a b, Nat.xor_assoc]
theorem pow_mul_xor (k a b : Nat) : 2 ^ k * (a ^^^ b) = 2 ^ k * a ^^^ 2 ^ k * b := by
  apply Nat.eq_of_testBit_eq
  intro j
  rw [Nat.testBit_xor, Nat.testBit_two_pow_mul, Nat.testBit_two_pow_mul, Nat.testBit_two_pow_mul, Nat.testBit_xor]
  cases decide (j ≥ k) <;> simp
def step (n : Nat) : Nat := (n / 2) ^^^ (if n % 2 = 1 then 2197175160 else 0)
def steps : Nat → Nat → Nat
  | 0, n => n
  | k + 1, n => steps k (step n)
theorem step_xor (a b : Nat) : step (a ^^^ b) = step a ^^^ step b := by
  unfold step
  have h1 : (a ^^^ b) / 2 = a / 2 ^^^ b / 2 := Nat.xor_div_two
  have h2 : (a ^^^ b) % 2 = (a % 2 + b % 2) % 2 := by rw [xor_two]
  rw [h1, h2]
  rcases Nat.mod_two_eq_zero_or_one a with ha | ha <;> rcases Nat.mod_two_eq_zero_or_one b with hb | hb <;> simp [ha, hb]
  · rw [Nat.xor_assoc]
  · rw [Nat.xor_assoc, Nat.xor_comm (b / 2), ← Nat.xor_assoc]
  · rw [Nat.xor_assoc, xor_left 2197175160, Nat.xor_self, Nat.xor_zero]
theorem steps_xor (k a b : Nat) : steps k (a ^^^ b) = steps k a ^^^ steps k b := by
  induction k generalizing a b with
  | zero => rfl
  | succ k ih => simp only [steps]; rw [step_xor, ih]
theorem steps_zero (k : Nat) : steps k 0 = 0 := by
  induction k with
  | zero => rfl
  | succ k ih => simp only [steps]; exact ih
theorem steps_add (j k n : Nat) : steps (j + k) n = steps k (steps j n) := by
  induction j generalizing n with
  | zero => simp [steps]
  | succ j ih => rw [Nat.succ_add]; simp only [steps]; exact ih _
theorem steps_pow (k h : Nat) : steps k (2 ^ k * h) = h := by
  induction k with
  | zero => simp [steps]
  | succ k ih =>
    simp only [steps]
    have : step (2 ^ (k + 1) * h) = 2 ^ k * h := by
      unfold step
      have e : 2 ^ (k + 1) * h = 2 * (2 ^ k * h) := by rw [Nat.pow_succ]; rw [Nat.mul_comm (2 ^ k) 2, Nat.mul_assoc]
      rw [e, Nat.mul_div_cancel_left _ (by decide), if_neg (by omega)]; simp
    rw [this, ih]
theorem step_lt (n : Nat) (h : n < 4294967296) : step n < 4294967296 := by
  unfold step
  exact Nat.xor_lt_two_pow (n := 32) (by omega) (by split <;> omega)
theorem step_ne (n : Nat) (h : n < 4294967296) (h0 : n ≠ 0) : step n ≠ 0 := by
  unfold step
  intro h1
  split at h1
  · have : n / 2 = 2197175160 := (xor_zero_iff _ _).1 h1
    omega
  · simp at h1
    omega
theorem steps_ne (k n : Nat) (h : n < 4294967296) (h0 : n ≠ 0) : steps k n ≠ 0 := by
  induction k generalizing n with
  | zero => exact h0
  | succ k ih => exact ih _ (step_lt n h) (step_ne n h h0)
theorem xor_low (i a b : Nat) (h : b < 2 ^ i) : b ^^^ 2 ^ i * a = 2 ^ i * a + b := by
  apply Nat.eq_of_testBit_eq
  intro j
  rw [Nat.testBit_xor, Nat.testBit_two_pow_mul, Nat.testBit_two_pow_mul_add _ h]
  by_cases hj : j < i
  · rw [if_pos hj]
    have : ¬ j ≥ i := by omega
    simp [this]
  · rw [if_neg hj]
    have h1 : b.testBit j = false := Nat.testBit_lt_two_pow (Nat.lt_of_lt_of_le h (Nat.pow_le_pow_right (by decide) (by omega)))
    have h2 : j ≥ i := by omega
    simp [h1, h2]
theorem nibTab_steps : ∀ j, j < 16 → nibTab.getD j 0 = steps 4 j := by decide
theorem crcNib_steps (n : Nat) : crcNib n = steps 4 n := by
  have e : n = (n % 16) ^^^ 2 ^ 4 * (n / 16) := by rw [xor_low 4 _ _ (by omega)]; omega
  have : steps 4 n = steps 4 (n % 16) ^^^ n / 16 := by
    conv => lhs; rw [e]
    rw [steps_xor, steps_pow]
  rw [this, crcNib, nibAt, nibTab_steps _ (by omega), Nat.xor_comm]
/-- A byte, as a natural number. -/
theorem crcByte_steps (n : Nat) (c : Int) (h : IsByte c) : crcByte n c = steps 8 (n ^^^ c.toNat) := by
  unfold IsByte at h
  have e : (c % 4294967296).toNat = c.toNat := by omega
  rw [crcByte, e, crcNib_steps, crcNib_steps, ← steps_add]
theorem refBit_step (n bit : Nat) (h : bit < 2) : refBit n bit = step (n ^^^ bit) := by
  have h1 : (n ^^^ bit) / 2 = n / 2 := by rw [Nat.xor_div_two]; have : bit / 2 = 0 := by omega
                                          rw [this]; simp
  have h2 : (n ^^^ bit) % 2 = (n % 2 + bit) % 2 := by rw [xor_two]; omega
  unfold refBit step
  rw [h1, h2]
  by_cases hb : n % 2 = bit
  · rw [if_pos hb, if_neg (by omega)]; simp
  · rw [if_neg hb, if_pos (by omega)]
theorem steps_succ (k n : Nat) : steps (k + 1) n = step (steps k n) := by
  rw [steps_add k 1]; rfl
theorem refBits_steps (k n c : Nat) : refBits k n c = steps k (n ^^^ c % 2 ^ k) := by
  induction k with
  | zero => simp [refBits, steps, Nat.mod_one]
  | succ k ih =>
    rw [refBits, refBit_step _ _ (by omega), ih, steps_succ]
    congr 1
    have e : c % 2 ^ (k + 1) = c % 2 ^ k ^^^ 2 ^ k * (c / 2 ^ k % 2) := by
      rw [xor_low _ _ _ (Nat.mod_lt _ (Nat.two_pow_pos k)), Nat.pow_succ, Nat.mod_mul]; omega
    rw [e, ← Nat.xor_assoc, steps_xor k (n ^^^ c % 2 ^ k), steps_pow]
theorem refByte_crcByte (n : Nat) (c : Int) (h : IsByte c) : refByte n c = crcByte n c := by
  rw [crcByte_steps n c h, refByte, refBits_steps]
  unfold IsByte at h
  have e : (c % 4294967296).toNat % 2 ^ 8 = c.toNat := by omega
  rw [e]
theorem refBytes_crcBytes (n : Nat) (l : List Int) (h : ∀ c ∈ l, IsByte c) : refBytes n l = crcBytes n l := by
  induction l generalizing n with
  | nil => rfl
  | cons c l ih =>
    show refBytes (refByte n c) l = crcBytes (crcByte n c) l
    rw [refByte_crcByte n c (h c (by simp)), ih _ (fun x hx => h x (by simp [hx]))]
/-- Bytes as one number, the lowest first. -/
def leNum : List Int → Nat
  | [] => 0
  | c :: l => c.toNat ^^^ 2 ^ 8 * leNum l
theorem crcBytes_steps (n : Nat) (l : List Int) (h : ∀ c ∈ l, IsByte c) : crcBytes n l = steps (8 * l.length) (n ^^^ leNum l) := by
  induction l generalizing n with
  | nil => simp [crcBytes, leNum, steps]
  | cons c l ih =>
    show crcBytes (crcByte n c) l = _
    rw [ih _ (fun x hx => h x (by simp [hx])), crcByte_steps n c (h c (by simp)), List.length_cons, Nat.mul_succ, Nat.add_comm, steps_add]
    congr 1
    rw [leNum, ← Nat.xor_assoc, steps_xor 8 (n ^^^ c.toNat), steps_pow]
theorem crcParts_flat (n : Nat) (l : List (List Int)) : crcParts n l = crcBytes n l.flatten := by
  induction l generalizing n with
  | nil => rfl
  | cons a l ih =>
    show crcParts (crcBytes n a) l = _
    rw [ih, List.flatten_cons, crcBytes, crcBytes, crcBytes, List.foldl_append]
/-- The stage's law: of bytes that differ by z, of 32 bits, s bits from their begin. -/
theorem crc_same (n s z : Nat) (x y : List Int) (hx : ∀ c ∈ x, IsByte c) (hy : ∀ c ∈ y, IsByte c) (hl : x.length = y.length) (hs : s ≤ 8 * x.length) (hz : z < 4294967296) (hd : leNum x ^^^ leNum y = 2 ^ s * z) : crcBytes n x = crcBytes n y ↔ z = 0 := by
  rw [crcBytes_steps n x hx, crcBytes_steps n y hy, ← hl]
  have e : steps (8 * x.length) (n ^^^ leNum x) ^^^ steps (8 * x.length) (n ^^^ leNum y) = steps (8 * x.length - s) z := by
    rw [← steps_xor]
    have : n ^^^ leNum x ^^^ (n ^^^ leNum y) = 2 ^ s * z := by
      rw [← hd, Nat.xor_assoc, ← Nat.xor_assoc (leNum x) n, Nat.xor_comm (leNum x) n, Nat.xor_assoc n (leNum x), ← Nat.xor_assoc n n, Nat.xor_self, Nat.zero_xor]
    rw [this]
    have e2 : 8 * x.length = s + (8 * x.length - s) := by omega
    conv => lhs; rw [e2, steps_add]
    rw [steps_pow]
  constructor
  · intro h
    rw [h, Nat.xor_self] at e
    by_cases hz0 : z = 0
    · exact hz0
    · exact absurd e.symm (steps_ne _ _ hz hz0)
  · intro h
    subst h
    rw [steps_zero] at e
    exact (xor_zero_iff _ _).1 e
theorem leNum_append (x y : List Int) : leNum (x ++ y) = leNum x ^^^ 2 ^ (8 * x.length) * leNum y := by
  induction x with
  | nil => simp [leNum]
  | cons c x ih =>
    rw [List.cons_append, leNum, ih, leNum, List.length_cons, pow_mul_xor, Nat.xor_assoc]
    congr 2
    rw [← Nat.mul_assoc, ← Nat.pow_add]; congr 2; omega
end Go.Proofs.Ytddajglkefpjdaa.Ext
