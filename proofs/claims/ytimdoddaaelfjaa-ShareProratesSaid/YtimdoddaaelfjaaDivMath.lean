/- The arithmetic of math/bits.Div64's two steps: plain numbers. -/
namespace Go.Proofs.Ytimdoddaaelfjaa.Ext
namespace D64
/-- What holds at the head of a step's loop: q is not too small, r is what q leaves. -/
structure Inv (U L Y a b q r : Nat) : Prop where
  eq : q * a + r = U
  lt : U * 4294967296 + L < (q + 1) * Y
  qs : q ≤ 4294967297
  rs : r < 4294967296
structure Sized (U L Y a b : Nat) : Prop where
  yy : Y = a * 4294967296 + b
  a1 : 2147483648 ≤ a
  a2 : a < 4294967296
  bs : b < 4294967296
  ls : L < 4294967296
  us : U < Y
variable {U L Y a b q r : Nat}
theorem Inv.start (S : Sized U L Y a b) : Inv U L Y a b (U / a) (U % a) := by
  obtain ⟨yy, a1, a2, bs, ls, us⟩ := S
  have h1 : U / a * a + U % a = U := Nat.div_add_mod' U a
  have h2 : U % a < a := Nat.mod_lt _ (by omega)
  have h3 : (U / a + 1) * Y = (U / a * a) * 4294967296 + a * 4294967296 + (U / a + 1) * b := by
    rw [yy, Nat.mul_add, ← Nat.mul_assoc, Nat.add_mul (U / a) 1 a]; omega
  refine ⟨h1, ?_, ?_, by omega⟩
  · rw [h3]
    generalize (U / a + 1) * b = z
    omega
  · by_cases h : U / a ≤ 4294967297
    · exact h
    · have h4 : 4294967298 * a ≤ U / a * a := Nat.mul_le_mul_right a (by omega)
      omega
theorem Inv.more (S : Sized U L Y a b) (I : Inv U L Y a b q r) (h : 4294967296 ≤ q ∨ 4294967296 * r + L < q * b) : U * 4294967296 + L < q * Y := by
  obtain ⟨yy, a1, a2, bs, ls, us⟩ := S
  obtain ⟨eq, lt, qs, rs⟩ := I
  rcases h with h | h
  · have h1 : 4294967296 * Y ≤ q * Y := Nat.mul_le_mul_right Y h
    omega
  · have h3 : q * Y = (q * a) * 4294967296 + q * b := by rw [yy, Nat.mul_add, ← Nat.mul_assoc]
    rw [h3]
    omega
theorem Inv.next (I : Inv U L Y a b q r) (h : U * 4294967296 + L < q * Y) (ha : r + a < 4294967296) : Inv U L Y a b (q - 1) (r + a) := by
  obtain ⟨eq, lt, qs, rs⟩ := I
  have hq : 0 < q := by
    rcases Nat.eq_zero_or_pos q with rfl | h'
    · omega
    · exact h'
  obtain ⟨p, rfl⟩ : ∃ p, q = p + 1 := ⟨q - 1, by omega⟩
  refine ⟨?_, ?_, by omega, ha⟩
  · rw [Nat.add_mul] at eq
    show p * a + (r + a) = U
    omega
  · exact h
theorem div_eq (h1 : q * Y ≤ U * 4294967296 + L) (h2 : U * 4294967296 + L < (q + 1) * Y) : (U * 4294967296 + L) / Y = q := by
  rw [Nat.div_eq_iff (by rcases Nat.eq_zero_or_pos Y with rfl | h; · omega
                         · exact h)]
  rw [Nat.add_mul] at h2
  omega
theorem Inv.stop (S : Sized U L Y a b) (I : Inv U L Y a b q r) (h : q * b ≤ 4294967296 * r + L) : (U * 4294967296 + L) / Y = q := by
  obtain ⟨yy, a1, a2, bs, ls, us⟩ := S
  obtain ⟨eq, lt, qs, rs⟩ := I
  refine div_eq ?_ lt
  have h3 : q * Y = (q * a) * 4294967296 + q * b := by rw [yy, Nat.mul_add, ← Nat.mul_assoc]
  rw [h3]
  omega
theorem Inv.leave (S : Sized U L Y a b) (I : Inv U L Y a b q r) (h : U * 4294967296 + L < q * Y) (ha : 4294967296 ≤ r + a) : (U * 4294967296 + L) / Y = q - 1 := by
  obtain ⟨yy, a1, a2, bs, ls, us⟩ := S
  obtain ⟨eq, lt, qs, rs⟩ := I
  have hq : 0 < q := by
    rcases Nat.eq_zero_or_pos q with rfl | h'
    · omega
    · exact h'
  obtain ⟨p, rfl⟩ : ∃ p, q = p + 1 := ⟨q - 1, by omega⟩
  refine div_eq ?_ h
  show p * Y ≤ _
  have h3 : p * Y = (p * a) * 4294967296 + p * b := by rw [yy, Nat.mul_add, ← Nat.mul_assoc]
  have h4 : p * b ≤ 4294967296 * 4294967295 := Nat.mul_le_mul (by omega) (by omega)
  rw [Nat.add_mul] at eq
  rw [h3]
  omega
/-- The whole: two steps make the quotient and the rest. -/
theorem whole (hi lo y n : Nat) (hh : hi < y) (hlo : lo < 18446744073709551616) (hn : n ≤ 64) (hY : y * 2 ^ n < 18446744073709551616) :
    (((hi * 2 ^ n + lo / 2 ^ (64 - n)) * 4294967296 + (lo * 2 ^ n % 18446744073709551616) / 4294967296) / (y * 2 ^ n) * 4294967296 +
      (((hi * 2 ^ n + lo / 2 ^ (64 - n)) * 4294967296 + (lo * 2 ^ n % 18446744073709551616) / 4294967296) % (y * 2 ^ n) * 4294967296 + (lo * 2 ^ n % 18446744073709551616) % 4294967296) / (y * 2 ^ n) = (hi * 18446744073709551616 + lo) / y) ∧
    ((((hi * 2 ^ n + lo / 2 ^ (64 - n)) * 4294967296 + (lo * 2 ^ n % 18446744073709551616) / 4294967296) % (y * 2 ^ n) * 4294967296 + (lo * 2 ^ n % 18446744073709551616) % 4294967296) % (y * 2 ^ n) / 2 ^ n = (hi * 18446744073709551616 + lo) % y) := by
  have p1 : 2 ^ n * 2 ^ (64 - n) = 18446744073709551616 := by rw [← Nat.pow_add, show n + (64 - n) = 64 by omega]
  have p2 : 0 < 2 ^ n := Nat.two_pow_pos n
  have e1 : lo * 2 ^ n = lo / 2 ^ (64 - n) * 18446744073709551616 + lo * 2 ^ n % 18446744073709551616 := by
    have : lo * 2 ^ n / 18446744073709551616 = lo / 2 ^ (64 - n) := by
      rw [← p1, Nat.mul_comm (2 ^ n), Nat.mul_div_mul_right _ _ p2]
    rw [← this]; omega
  have e2 : (hi * 18446744073709551616 + lo) * 2 ^ n = (hi * 2 ^ n + lo / 2 ^ (64 - n)) * 18446744073709551616 + lo * 2 ^ n % 18446744073709551616 := by
    rw [Nat.add_mul, e1, Nat.add_mul (hi * 2 ^ n), Nat.mul_right_comm hi, ← e1]
    omega
  have g1 : (hi * 18446744073709551616 + lo) * 2 ^ n / (y * 2 ^ n) = (hi * 18446744073709551616 + lo) / y := Nat.mul_div_mul_right _ _ p2
  have g2 : (hi * 18446744073709551616 + lo) * 2 ^ n % (y * 2 ^ n) = (hi * 18446744073709551616 + lo) % y * 2 ^ n := Nat.mul_mod_mul_right _ _ _
  have hYp : 0 < y * 2 ^ n := Nat.mul_pos (by omega) p2
  rw [← g1]
  rw [show (hi * 18446744073709551616 + lo) % y = (hi * 18446744073709551616 + lo) % y * 2 ^ n / 2 ^ n from (Nat.mul_div_cancel _ p2).symm, ← g2, e2]
  generalize hi * 2 ^ n + lo / 2 ^ (64 - n) = U
  generalize lo * 2 ^ n % 18446744073709551616 = L
  generalize y * 2 ^ n = Y at *
  have t : U * 18446744073709551616 + L = ((U * 4294967296 + L / 4294967296) % Y * 4294967296 + L % 4294967296) + Y * ((U * 4294967296 + L / 4294967296) / Y * 4294967296) := by
    have h := Nat.div_add_mod (U * 4294967296 + L / 4294967296) Y
    rw [← Nat.mul_assoc]
    generalize Y * ((U * 4294967296 + L / 4294967296) / Y) = z at *
    omega
  rw [t, Nat.add_mul_div_left _ _ hYp, Nat.add_mul_mod_self_left]
  exact ⟨Nat.add_comm _ _, rfl⟩
theorem or_add (h l n : Nat) (hl : l < 2 ^ n) : h * 2 ^ n ||| l = h * 2 ^ n + l := by
  rw [Nat.mul_comm, ← Nat.two_pow_add_eq_or_of_lt hl]
end D64
end Go.Proofs.Ytimdoddaaelfjaa.Ext
