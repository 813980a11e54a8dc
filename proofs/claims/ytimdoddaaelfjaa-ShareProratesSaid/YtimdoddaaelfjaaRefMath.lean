/- Plain arithmetic of numbers of four digits of 32 bits. -/
import Derived.Test.YtimdoddaaelfjaaMath
namespace Go.Proofs.Ytimdoddaaelfjaa.Ext
open Go.RowKit
set_option linter.unusedVariables false
/-- The value of four digits. -/
def big (a b c d : Int) : Value := .agg #[.int .u64 a, .int .u64 b, .int .u64 c, .int .u64 d]
/-- The number of 128 bits that is s modulo 2 to the 128. -/
def bigV (s : Int) : Value := big (s % 4294967296) (s / 4294967296 % 4294967296) (s / 4294967296 / 4294967296 % 4294967296) (s / 4294967296 / 4294967296 / 4294967296 % 4294967296)
theorem wrapUI (x : Int) (h0 : 0 ≤ x) (h1 : x < 18446744073709551616) : IntKind.u64.wrap x = x := by
  obtain ⟨n, rfl⟩ := Int.eq_ofNat_of_zero_le h0
  exact wrapU n (by omega)
theorem tmodK (x : Int) (h0 : 0 ≤ x) : x.tmod 4294967296 = x % 4294967296 := by rw [Int.tmod_eq_emod_of_nonneg h0]
theorem add_step (x y c : Int) (h0 : 0 ≤ c) (h1 : c ≤ 1) : ∃ c', 0 ≤ c' ∧ c' ≤ 1 ∧ x / 4294967296 + y / 4294967296 + c' = (x + y + c) / 4294967296
    ∧ (x % 4294967296 + y % 4294967296 + c) / 4294967296 = c' ∧ IntKind.u64.wrap (x % 4294967296 + y % 4294967296) = x % 4294967296 + y % 4294967296
    ∧ IntKind.u64.wrap (x % 4294967296 + y % 4294967296 + c) = x % 4294967296 + y % 4294967296 + c
    ∧ (x % 4294967296 + y % 4294967296 + c).tmod 4294967296 = (x + y + c) % 4294967296 := by
  refine ⟨(x % 4294967296 + y % 4294967296 + c) / 4294967296, by omega, by omega, by omega, rfl, wrapUI _ (by omega) (by omega), wrapUI _ (by omega) (by omega), ?_⟩
  rw [tmodK _ (by omega)]; omega
theorem neg_dig (s : Int) : (-1 - s) % 4294967296 = 4294967295 - s % 4294967296 ∧ (-1 - s) / 4294967296 = -1 - s / 4294967296 := by omega
theorem bigV_eq (s t : Int) (h : (s - t) % 340282366920938463463374607431768211456 = 0) : bigV s = bigV t := by
  unfold bigV
  have e0 : s % 4294967296 = t % 4294967296 := by omega
  have e1 : s / 4294967296 % 4294967296 = t / 4294967296 % 4294967296 := by omega
  have e2 : s / 4294967296 / 4294967296 % 4294967296 = t / 4294967296 / 4294967296 % 4294967296 := by omega
  have e3 : s / 4294967296 / 4294967296 / 4294967296 % 4294967296 = t / 4294967296 / 4294967296 / 4294967296 % 4294967296 := by omega
  rw [e0, e1, e2, e3]
/-- one step of a row of the product -/
theorem mul_step (a b o c : Int) (ha : 0 ≤ a) (ha' : a < 4294967296) (hb : 0 ≤ b) (hb' : b < 4294967296) (ho : 0 ≤ o) (ho' : o < 4294967296) (hc : 0 ≤ c) (hc' : c < 4294967296) :
    ∃ o' c', 0 ≤ o' ∧ o' < 4294967296 ∧ 0 ≤ c' ∧ c' < 4294967296 ∧ a * b + o + c = o' + 4294967296 * c' ∧ IntKind.u64.wrap (a * b) = a * b ∧ IntKind.u64.wrap (a * b + o) = a * b + o ∧ IntKind.u64.wrap (a * b + o + c) = a * b + o + c
      ∧ (a * b + o + c).tmod 4294967296 = o' ∧ (a * b + o + c) / 4294967296 = c' := by
  have h0 : 0 ≤ a * b := Int.mul_nonneg ha hb
  have h1 : a * b ≤ 4294967295 * 4294967295 := Int.mul_le_mul (by omega) (by omega) hb (by omega)
  refine ⟨(a * b + o + c) % 4294967296, (a * b + o + c) / 4294967296, by omega, by omega, by omega, by omega, by omega, wrapUI _ (by omega) (by omega), wrapUI _ (by omega) (by omega), wrapUI _ (by omega) (by omega), tmodK _ (by omega), rfl⟩
theorem bit_of (x : Int) (m : Nat) (hm : m < 32) : (x % 4294967296) / (2 ^ m : Nat) % 2 = x / (2 ^ m : Nat) % 2 := by
  have : m = 0 ∨ m = 1 ∨ m = 2 ∨ m = 3 ∨ m = 4 ∨ m = 5 ∨ m = 6 ∨ m = 7 ∨ m = 8 ∨ m = 9 ∨ m = 10 ∨ m = 11 ∨ m = 12 ∨ m = 13 ∨ m = 14 ∨ m = 15 ∨ m = 16 ∨ m = 17 ∨ m = 18 ∨ m = 19 ∨ m = 20 ∨ m = 21 ∨ m = 22 ∨ m = 23 ∨ m = 24 ∨ m = 25 ∨ m = 26 ∨ m = 27 ∨ m = 28 ∨ m = 29 ∨ m = 30 ∨ m = 31 := by omega
  rcases this with rfl | rfl | rfl | rfl | rfl | rfl | rfl | rfl | rfl | rfl | rfl | rfl | rfl | rfl | rfl | rfl | rfl | rfl | rfl | rfl | rfl | rfl | rfl | rfl | rfl | rfl | rfl | rfl | rfl | rfl | rfl | rfl <;> omega
/-- The product, digit by digit. -/
theorem mul_digits (a0 a1 a2 a3 b0 b1 b2 b3 : Int) (ra rb : Int) (o00 o01 o02 o03 o10 o11 o12 o20 o21 o30 c01 c02 c03 c04 c11 c12 c13 c21 c22 c31 : Int)
    (h00 : a0 * b0 = o00 + 4294967296 * c01) (h01 : a0 * b1 + c01 = o01 + 4294967296 * c02) (h02 : a0 * b2 + c02 = o02 + 4294967296 * c03) (h03 : a0 * b3 + c03 = o03 + 4294967296 * c04)
    (h10 : a1 * b0 + o01 = o10 + 4294967296 * c11) (h11 : a1 * b1 + o02 + c11 = o11 + 4294967296 * c12) (h12 : a1 * b2 + o03 + c12 = o12 + 4294967296 * c13)
    (h20 : a2 * b0 + o11 = o20 + 4294967296 * c21) (h21 : a2 * b1 + o12 + c21 = o21 + 4294967296 * c22)
    (h30 : a3 * b0 + o21 = o30 + 4294967296 * c31) :
    (a0 + 4294967296 * (a1 + 4294967296 * (a2 + 4294967296 * (a3 + 4294967296 * ra)))) * (b0 + 4294967296 * (b1 + 4294967296 * (b2 + 4294967296 * (b3 + 4294967296 * rb))))
      = o00 + 4294967296 * (o10 + 4294967296 * (o20 + 4294967296 * (o30 + 4294967296 * (c04 + c13 + c22 + c31 + a1 * b3 + a2 * b2 + a3 * b1 + a0 * rb + ra * b0 + 4294967296 * (a2 * b3 + a3 * b2 + a1 * rb + ra * b1) + 4294967296 * (4294967296 * (a3 * b3 + a2 * rb + ra * b2)) + 4294967296 * (4294967296 * (4294967296 * (a3 * rb + ra * b3))) + 4294967296 * (4294967296 * (4294967296 * (4294967296 * (ra * rb)))))))) := by
  simp only [Int.mul_add, Int.add_mul, Int.mul_assoc, Int.mul_left_comm _ (4294967296 : Int) _]
  omega
end Go.Proofs.Ytimdoddaaelfjaa.Ext
